/- Replica: the law of keeping. -/
import Derived.Test.YtcfbgelhggapjaaGreatDoorQ19
import Derived.Test.YtcfbgelhggapjaaGreatDoorQ18
import Derived.Test.YtcfbgelhggapjaaGreatDoorQ17
import Derived.ChangeMaps5
namespace Go.Proofs.YtcfbgelhggapjaaGreatDoor
open Go.RowKit Go.Shelf
/-- three replicas in one block, each with its row -/
structure Tri (w : World) (g : Nat) (L : List (List Rc)) (k : Nat) (A : Option Addr) (n c : Nat) (l : List Rc) : Prop where
  ln : l.length = n
  hnc : n ≤ c
  hc : c ≤ 9223372036854775807
  at_ : ∀ W, Below w.heap.size w W → W.cell? ⟨g, k * 2, none⟩ = some (.int .i64 k) ∧ W.cell? ⟨g, k * 2 + 1, none⟩ = some (.slice A n c) ∧ g < W.heap.size ∧ SlR W W.heap.size 7 A n (l.flatMap cR) ∧ RL W
set_option linter.unusedSimpArgs false in
set_option maxRecDepth 100000 in
set_option maxHeartbeats 16000000 in
theorem c_Keeps (A : Option Addr) (N c : Nat) (xs : List I4) (at_ which : Int) (text : ByteArray) (w : World) (hR : RL w) (hN : N ≤ 9223372036854775807) (hx : ∀ x ∈ xs, ok4 x) (hl : xs.length = N) (hr : SlR w w.heap.size 4 A xs.length (xs.flatMap c4))
    (ha1 : -9223372036854775808 ≤ at_) (ha2 : at_ ≤ 9223372036854775807) (hw1' : -9223372036854775808 ≤ which) (hw2' : which ≤ 9223372036854775807) :
    Calls Tryz.prog 5 #[.slice A N c, .int .i64 at_, .int .i64 which, .string text] w fun e w' => e = .returned (.bool true) ∧ Below w.heap.size w w' := by
  have hw0 := hR.lt
  have HRw := hide hR
  have HX := hide (And.intro hx (And.intro hl hr))
  clear hx hl hr
  have hmn : ((min (text.size : Int) 20) : Int) = ((min text.size 20 : Nat) : Int) := by omega
  have hmn2 : (min text.size 20 : Nat) ≤ text.size := by omega
  go_enter Tryz.func5, Tryz.ntmps5
  go_upto_region 2 with (go_at_call 10; refine (c_lsane w HRw.out).mono ?_; rintro e w1 ⟨rfl, hb1⟩; have HB1 := hide hb1; clear hb1)
  go_upto_region 5 with (go_at_call 11; refine (c_Made A N c xs w1 hN HX.out.1 HX.out.2.1 (HX.out.2.2.to' HB1.out)).mono ?_; rintro e w2 ⟨rfl, hT, hb2⟩; have HT := hide hT; have HB2 := hide (And.intro hb2 (And.intro (bthen HB1.out hb2) (HRw.out.to' (bthen HB1.out hb2)))); clear hb2 hT)
  go_upto_region 6 with (fail)
  obtain ⟨tx, htx⟩ : ∃ tx, text.extract 0 (min text.size 20) = tx := ⟨_, rfl⟩
  have htx20 : tx.size ≤ 4000 := by rw [← htx]; simp only [ByteArray.size_extract]; omega
  try rw [htx]
  clear htx hmn hmn2
  have HTri : Hid (∀ k, k < 3 → ∃ A n c l, (madL xs)[k]! = l ∧ Tri w2 w1.heap.size (madL xs) k A n c l) := hide (fun k hk => by
    obtain ⟨A', c', h1, h2, h3⟩ := HT.out.bx hk rfl rfl
    exact ⟨A', _, c', _, rfl, rfl, h1, h2, fun W hW => ⟨(h3 W hW).1, (h3 W hW).2.1, (h3 W hW).2.2.1, (h3 W hW).2.2.2, HB2.out.2.2.to' hW⟩⟩)
  have hu := pk_range at_ 1000 (by omega)
  have hpk1 : ∀ W : World, Calls Tryz.prog 21 #[.int .i64 at_, .int .i64 1000] W fun e w' => e = .returned (.int .i64 (pk at_ 1000)) ∧ W = w' := fun W => c_lpick at_ 1000 W ha1 ha2 (by omega) (by omega)
  have HK := hide (fun i (hi : i < 3) => keeps_all xs hi (mn := 1000 + pk at_ 1000) (by omega) htx20)
  generalize pk at_ 1000 = u at *
  generalize madL xs = L at *
  have hg2 : w1.heap.size < w2.heap.size := by
    obtain ⟨_, _, _, _, _, h⟩ := HTri.out 0 (by omega)
    exact (h.at_ w2 (Below.refl _ _)).2.2.1
  clear htx20
  go_wp2_with fail
  go_loopw [11] (fun i W => ∃ k : Nat, k ≤ 3 ∧ i = .int .i64 k ∧ Below w2.heap.size w2 W) (fun i _ => 3 - (intOf i).toNat)
  case atStart => exact ⟨0, Nat.zero_le _, rfl, Below.refl _ _⟩
  case round =>
    obtain ⟨k, hk, rfl, hbW⟩ := hrel
    obtain ⟨wo, rfl⟩ : ∃ wo, wo = wr := ⟨_, rfl⟩
    by_cases hlt : k < 3
    · have hki : (k : Int) < 3 := by omega
      obtain ⟨Ak, n, ck, l, hLk, ht⟩ := HTri.out k hlt
      obtain ⟨kad, kco, kmg, kfe⟩ := HK.out k hlt
      rw [hLk] at kad kco kmg kfe
      have HKk := hide (And.intro kad kco)
      have HKm := hide kmg
      have HTk := hide ht
      have hn24 : n ≤ 24 := by rw [← ht.ln]; exact kfe
      have hnc := ht.hnc
      have hcc := ht.hc
      clear ht hLk kad kco kmg kfe
      have HW := hide hbW
      obtain ⟨x0, x1, x2, x3, x4⟩ := HTk.out.at_ wo hbW
      clear x3 x4 hbW
      go_upto_region 10 with (fail)
      have g12 : Bx (wo.alloc (.cells #[.int .i64 k, .slice Ak n ck] 25)) wo.heap.size k Ak n ck l := ⟨Blk.new wo 25 [.int .i64 k, .slice Ak n ck], (HTk.out.at_ wo HW.out).2.2.2.1.to' (balloc (Below.refl _ _) _), hnc, hcc⟩
      have hb3 := balloc (Below.refl wo.heap.size wo) (.cells #[.int .i64 k, .slice Ak n ck] 25)
      generalize wo.alloc (.cells #[.int .i64 k, .slice Ak n ck] 25) = w3 at *
      have H12 := hide g12
      have HB3 := hide (And.intro hb3 (bthen HW.out hb3))
      have HBa : Hid (∀ W, Below w3.heap.size w3 W → Bx W wo.heap.size k Ak n ck l ∧ RL W) := hide (fun W h => ⟨H12.out.to h, (HTk.out.at_ W (bthen HB3.out.2 h)).2.2.2.2⟩)
      have hl3 := g12.cells.2.2
      clear g12 hb3 x0 x1 x2
      have hw1 : wrap64 (1000 + u) = 1000 + u := (Go.IntWalk.wrap64_in _ (by omega))
      go_upto_region 11 with (go_at_call 21; refine (hpk1 _).mono ?_; rintro e w' ⟨rfl, rfl⟩)
      try rw [hw1]
      clear hw1
      obtain ⟨a, ha, hone⟩ := HKk.out.1
      have HA := hide (And.intro ha hone)
      obtain ⟨na, hal⟩ : ∃ na, a.length = na := ⟨_, rfl⟩
      have hna : na = n + 1 := by rw [← hal, hone.len, HTk.out.ln]
      have HNa := hide (And.intro hal hna)
      have hnai : (na : Int) = (n : Int) + 1 := by omega
      have hnas : na ≤ 25 := by omega
      clear hal hna
      clear ha hone
      obtain ⟨x0, x1, x2⟩ := H12.out.cells
      go_upto_region 12 with (go_at_call 18; refine (c_pAdd k (1000 + u) 3 tx Ak n ck l w3 (HTk.out.at_ w3 HB3.out.2).2.2.2.2 hnc hcc H12.out.slr).mono ?_; rintro e w4 hp; rw [HA.out.1] at hp; obtain ⟨hb, A4, c4, rfl, hk1, hk2, hsn⟩ := RepPost.some' HNa.out.1 hp; clear hp x0 x1 x2; have H4 := hide (And.intro hb (And.intro hsn (And.intro hk1 hk2))); clear hb hsn hk1 hk2)
      have g14 : Bx (w4.alloc (.cells #[.int .i64 k, .slice A4 na c4] 25)) w4.heap.size k A4 na c4 a := ⟨Blk.new w4 25 [.int .i64 k, .slice A4 na c4], H4.out.2.1.1.to' (balloc (Below.refl _ _) _), H4.out.2.2.1, H4.out.2.2.2⟩
      have hbw5 := balloc H4.out.1 (.cells #[.int .i64 k, .slice A4 na c4] 25)
      generalize w4.alloc (.cells #[.int .i64 k, .slice A4 na c4] 25) = w5 at *
      have H14 := hide g14
      have HBw5 := hide hbw5
      have hlw5 := g14.cells.2.2
      clear g14 hbw5
      have HQw5 : Hid (∀ W, Below w5.heap.size w5 W → Bx W wo.heap.size k Ak n ck l ∧ Bx W w4.heap.size k A4 na c4 a ∧ RL W ∧ Below w5.heap.size w5 W) := hide (fun W h => ⟨(HBa.out W (bthen HBw5.out h)).1, H14.out.to h, (HBa.out W (bthen HBw5.out h)).2, h⟩)
      have HKaw5 : Hid (∀ W, Below w5.heap.size w5 W → Calls Tryz.prog 37 #[.slice A4 na c4, .slice Ak n ck] W fun e w' => e = .returned (.bool true) ∧ Below W.heap.size W w') := hide (fun W h => by
        obtain ⟨g1, g2, g3, -⟩ := HQw5.out W h
        have := c_lkeeps A4 na c4 a Ak n ck l W (by omega) (by omega) g2.slr g1.slr
        rw [HA.out.2.kp] at this
        exact this)
      have HVaw5 : Hid (∀ W, Below w5.heap.size w5 W → Calls Tryz.prog 16 #[.agg #[.int .i64 k, .slice A4 na c4]] W fun e w' => e = .returned (.bool true) ∧ Below W.heap.size W w') := hide (fun W h => by
        obtain ⟨g1, g2, g3, -⟩ := HQw5.out W h
        have := c_pValid k A4 na c4 a W g3 g2.slr (by omega)
        rw [HA.out.2.vr] at this
        exact this)
      obtain ⟨x0, x1, x2⟩ := (HQw5.out w5 (Below.refl _ _)).1.cells
      obtain ⟨y0, y1, y2⟩ := (HQw5.out w5 (Below.refl _ _)).2.1.cells
      obtain ⟨hw2, hw3⟩ : wrap64 ((n : Int) + 1) = (n : Int) + 1 ∧ IntKind.i64.wrap ((n : Int) + 1) = (n : Int) + 1 := ⟨(Go.IntWalk.wrap64_in _ (by omega)), i64w (by omega) (by omega)⟩
      go_upto_if 79 with (first | (go_at_call 37; refine (HKaw5.out _ (Below.refl _ _)).mono ?_; rintro e w6 ⟨rfl, hb⟩; have HBw6 := hide hb; clear hb x0 x1 x2 y0 y1 y2; obtain ⟨x0, x1, x2⟩ := (HQw5.out w6 HBw6.out).1.cells; obtain ⟨y0, y1, y2⟩ := (HQw5.out w6 HBw6.out).2.1.cells) | (go_at_call 16; refine (HVaw5.out _ HBw6.out).mono ?_; rintro e w7 ⟨rfl, hb⟩; have HBw7 := hide (bthen HBw5.out (bthen HBw6.out hb)); clear hb x0 x1 x2 y0 y1 y2))
      clear hw2 hw3
      have HBb : Hid (∀ W, Below w7.heap.size w7 W → Bx W wo.heap.size k Ak n ck l ∧ RL W) := hide (fun W h => HBa.out W (bthen HBw7.out h))
      have hl7 : wo.heap.size < w7.heap.size := (HBb.out w7 (Below.refl _ _)).1.cells.2.2
      obtain ⟨x0, x1, x2⟩ := (HBb.out w7 (Below.refl _ _)).1.cells
      clear HKaw5 HVaw5 HQw5
      go_upto_if 83 with (fail)
      obtain ⟨D, hD⟩ : ∃ D, D = decide (0 < n) := ⟨_, rfl⟩
      rw [← hD]
      have HD := hide hD
      clear hD
      go_cut [] from 84 to 128 (fun wx => Below w7.heap.size w7 wx)
      case first =>
        cases D with
        | true =>
          have hn0 : 0 < n := of_decide_eq_true HD.out.symm
          obtain ⟨jj, hjj⟩ : ∃ jj, pkN which n = jj := ⟨_, rfl⟩
          have hjn : jj < n := by rw [← hjj]; exact pkN_lt which n hn0
          have hpk2 : ∀ W : World, Calls Tryz.prog 21 #[.int .i64 which, .int .i64 n] W fun e w' => e = .returned (.int .i64 (jj : Nat)) ∧ W = w' := fun W => by
            have := c_lpick which n W hw1' hw2' (by omega) (by omega)
            rw [pk_N which n hn0, hjj] at this
            exact this
          obtain ⟨bk, ok, rfl, hbk⟩ := (HBb.out w7 (Below.refl _ _)).1.slr.some_of hn0
          have hjl : jj < l.length := by rw [HTk.out.ln]; exact hjn
          obtain ⟨cc, hco, hcone⟩ := HKk.out.2 _ (List.getElem_mem hjl)
          have HCy : Hid (∀ W, Below w7.heap.size w7 W → _) := hide (fun W hW => ((HBb.out W hW).1.slr.cellsR (Below.refl _ _) hjl).2)
          generalize l[jj]'hjl = o at *
          obtain ⟨qp, qn, qt, qo, qw, qk, qx⟩ := o
          dsimp only at HCy hco
          have HC := hide (And.intro hco hcone)
          have hcl : cc.length = na := by rw [hcone.len, HTk.out.ln, HNa.out.2]
          clear hco hcone hjj
          have HS : Hid (∀ W, Below w7.heap.size w7 W → W.cell? ⟨wo.heap.size, 0, none⟩ = some (.int .i64 k) ∧ W.cell? ⟨wo.heap.size, 1, none⟩ = some (.slice (some ⟨bk, ok, none⟩) n ck) ∧ W.cell? ⟨bk, ok + jj * 7, none⟩ = some (.int .i64 qp) ∧ W.cell? ⟨bk, ok + jj * 7 + 1, none⟩ = some (.int .i64 qn) ∧ W.cell? ⟨bk, ok + jj * 7 + 2, none⟩ = some (.int .i64 qt) ∧ W.cell? ⟨bk, ok + jj * 7 + 3, none⟩ = some (.int .i64 qo) ∧ W.cell? ⟨bk, ok + jj * 7 + 4, none⟩ = some (.int .i64 qw) ∧ W.cell? ⟨bk, ok + jj * 7 + 5, none⟩ = some (.int .i64 qk) ∧ W.cell? ⟨bk, ok + jj * 7 + 6, none⟩ = some (.string qx) ∧ Below w7.heap.size w7 W) := hide (fun W hW => by
            obtain ⟨y0, y1, y2, y3, y4, y5, y6⟩ := HCy.out W hW
            obtain ⟨x0, x1, x2⟩ := (HBb.out W hW).1.cells
            exact ⟨x0, x1, y0, y1, y2, y3, y4, y5, y6, hW⟩)
          have hji : (jj : Int) < (n : Int) := by omega
          have hji0 : (0 : Int) ≤ (jj : Int) := by omega
          clear x0 x1 x2
          go_wp2_with fail
          go_cut [16] from 84 to 92 (fun v wx => RcCut ⟨qp, qn, qt, qo, qw, qk, qx⟩ w7 v wx)
          case first =>
            go_region_held3 (fun W => W.cell? ⟨wo.heap.size, 0, none⟩ = some (.int .i64 k) ∧ W.cell? ⟨wo.heap.size, 1, none⟩ = some (.slice (some ⟨bk, ok, none⟩) n ck) ∧ W.cell? ⟨bk, ok + jj * 7, none⟩ = some (.int .i64 qp) ∧ W.cell? ⟨bk, ok + jj * 7 + 1, none⟩ = some (.int .i64 qn) ∧ W.cell? ⟨bk, ok + jj * 7 + 2, none⟩ = some (.int .i64 qt) ∧ W.cell? ⟨bk, ok + jj * 7 + 3, none⟩ = some (.int .i64 qo) ∧ W.cell? ⟨bk, ok + jj * 7 + 4, none⟩ = some (.int .i64 qw) ∧ W.cell? ⟨bk, ok + jj * 7 + 5, none⟩ = some (.int .i64 qk) ∧ W.cell? ⟨bk, ok + jj * 7 + 6, none⟩ = some (.string qx) ∧ Below w7.heap.size w7 W)
              (first | exact HS.out _ (by assumption) | exact HS.out _ (bdrew (Below.refl _ _)) | exact HS.out _ h8 | exact HS.out _ (balloc h8 _) | exact HS.out _ (bset (bset h8 (Nat.le_refl _) _) (Nat.le_refl _) _) | (go_split_ands; first | exact HS.out _ (by assumption) | exact HS.out _ (bthen (by assumption) (by assumption)) | exact HS.out _ (balloc (by assumption) _) | exact HS.out _ (bdrew (balloc (Below.refl _ _) _)) | exact HS.out _ (balloc (bthen (by assumption) (by assumption)) _)))
              ((go_at_call 21; with_reducible refine (hpk2 _).mono ?_; rintro e w' ⟨rfl, rfl⟩))
            all_goals
              go_wp2_with fail
              go_meet
              exact RcCut.mk w7 qp qn qt qo qw qk qx
          case rest =>
            obtain ⟨w8, rfl⟩ : ∃ w8, w8 = wc := ⟨_, rfl⟩
            obtain ⟨b16, rfl, hle16, g16, hb8⟩ := hcut
            clear HS HCy
            have HB8 := hide hb8
            have HBc : Hid (∀ W, Below w8.heap.size w8 W → Bx W wo.heap.size k (some ⟨bk, ok, none⟩) n ck l ∧ RL W) := hide (fun W h => HBb.out W (bthen HB8.out h))
            have hl8 : wo.heap.size < w8.heap.size := (HBc.out w8 (Below.refl _ _)).1.cells.2.2
            obtain ⟨x0, x1, x2⟩ := (HBc.out w8 (Below.refl _ _)).1.cells
            obtain ⟨⟨z0, z1, z2, z3, z4, z5, z6⟩, -⟩ := g16.all7
            have hl16 := g16.lt
            have HCl := hide hcl
            clear hb8 g16 z2 z3 z4 z5 z6 hcl
            go_upto_region 17 with (go_at_call 22; refine (c_pCorrect k (1000 + u) qp qn 3 tx (some ⟨bk, ok, none⟩) n ck l w8 (HBc.out w8 (Below.refl _ _)).2 hnc hcc (HBc.out w8 (Below.refl _ _)).1.slr).mono ?_; rintro e w9 hp; rw [HC.out.1] at hp; obtain ⟨hb, A9, c9, rfl, hk1, hk2, hsn⟩ := RepPost.some' HCl.out hp; clear hp x0 x1 x2 z0 z1; have H9 := hide (And.intro hb (And.intro hsn (And.intro hk1 hk2))); clear hb hsn hk1 hk2)
            have g17 : Bx (w9.alloc (.cells #[.int .i64 k, .slice A9 na c9] 25)) w9.heap.size k A9 na c9 cc := ⟨Blk.new w9 25 [.int .i64 k, .slice A9 na c9], H9.out.2.1.1.to' (balloc (Below.refl _ _) _), H9.out.2.2.1, H9.out.2.2.2⟩
            have hbw10 := balloc H9.out.1 (.cells #[.int .i64 k, .slice A9 na c9] 25)
            generalize w9.alloc (.cells #[.int .i64 k, .slice A9 na c9] 25) = w10 at *
            have H17 := hide g17
            have HBw10 := hide hbw10
            have hlw10 := g17.cells.2.2
            clear g17 hbw10
            have HQw10 : Hid (∀ W, Below w10.heap.size w10 W → Bx W wo.heap.size k (some ⟨bk, ok, none⟩) n ck l ∧ Bx W w9.heap.size k A9 na c9 cc ∧ RL W ∧ Below w10.heap.size w10 W) := hide (fun W h => ⟨(HBc.out W (bthen HBw10.out h)).1, H17.out.to h, (HBc.out W (bthen HBw10.out h)).2, h⟩)
            have HKaw10 : Hid (∀ W, Below w10.heap.size w10 W → Calls Tryz.prog 37 #[.slice A9 na c9, .slice (some ⟨bk, ok, none⟩) n ck] W fun e w' => e = .returned (.bool true) ∧ Below W.heap.size W w') := hide (fun W h => by
              obtain ⟨g1, g2, g3, -⟩ := HQw10.out W h
              have := c_lkeeps A9 na c9 cc (some ⟨bk, ok, none⟩) n ck l W (by omega) (by omega) g2.slr g1.slr
              rw [HC.out.2.kp] at this
              exact this)
            have HVaw10 : Hid (∀ W, Below w10.heap.size w10 W → Calls Tryz.prog 16 #[.agg #[.int .i64 k, .slice A9 na c9]] W fun e w' => e = .returned (.bool true) ∧ Below W.heap.size W w') := hide (fun W h => by
              obtain ⟨g1, g2, g3, -⟩ := HQw10.out W h
              have := c_pValid k A9 na c9 cc W g3 g2.slr (by omega)
              rw [HC.out.2.vr] at this
              exact this)
            obtain ⟨x0, x1, x2⟩ := (HQw10.out w10 (Below.refl _ _)).1.cells
            obtain ⟨y0, y1, y2⟩ := (HQw10.out w10 (Below.refl _ _)).2.1.cells
            obtain ⟨hw2, hw3⟩ : wrap64 ((n : Int) + 1) = (n : Int) + 1 ∧ IntKind.i64.wrap ((n : Int) + 1) = (n : Int) + 1 := ⟨(Go.IntWalk.wrap64_in _ (by omega)), i64w (by omega) (by omega)⟩
            go_upto_if 128 with (first | (go_at_call 37; refine (HKaw10.out _ (Below.refl _ _)).mono ?_; rintro e w11 ⟨rfl, hb⟩; have HBw11 := hide hb; clear hb x0 x1 x2 y0 y1 y2; obtain ⟨x0, x1, x2⟩ := (HQw10.out w11 HBw11.out).1.cells; obtain ⟨y0, y1, y2⟩ := (HQw10.out w11 HBw11.out).2.1.cells) | (go_at_call 16; refine (HVaw10.out _ HBw11.out).mono ?_; rintro e w12 ⟨rfl, hb⟩; have HBw12 := hide (bthen HBw10.out (bthen HBw11.out hb)); clear hb x0 x1 x2 y0 y1 y2))
            clear hw2 hw3
            go_wp2_with fail
            go_meet
            exact bthen HB8.out HBw12.out
        | false =>
          go_wp2_with fail
          go_meet
          exact Below.refl _ _
      case rest =>
        obtain ⟨w13, rfl⟩ : ∃ w13, w13 = wc := ⟨_, rfl⟩
        have HB13 := hide (bthen HBw7.out hcut)
        have HW13 := hide (bthen HB3.out.2 HB13.out)
        clear hcut HBb hl7 x0 x1 x2
        have HBd : Hid (∀ W, Below w13.heap.size w13 W → Bx W wo.heap.size k Ak n ck l ∧ RL W) := hide (fun W h => HBa.out W (bthen HB13.out h))
        clear hl3
        have hl3 : wo.heap.size < w13.heap.size := (HBd.out w13 (Below.refl _ _)).1.cells.2.2
        go_wp2_with fail
        go_loopw [19] (fun i W => ∃ j : Nat, j ≤ 3 ∧ i = .int .i64 j ∧ Below w13.heap.size w13 W) (fun i _ => 3 - (intOf i).toNat)
        case atStart => exact ⟨0, Nat.zero_le _, rfl, Below.refl _ _⟩
        case round =>
          obtain ⟨j, hj, rfl, hbX⟩ := hrel
          obtain ⟨wx, rfl⟩ : ∃ wx, wx = wr := ⟨_, rfl⟩
          by_cases hj3 : j < 3
          · have hj3i : (j : Int) < 3 := by omega
            obtain ⟨Aj, nj, cj, lj, hLj, htj⟩ := HTri.out j hj3
            obtain ⟨m, mo, hkm⟩ := HKm.out j hj3
            rw [hLj] at hkm
            obtain ⟨nm, hnm⟩ : ∃ nm, m.length = nm := ⟨_, rfl⟩
            obtain ⟨nmo, hnmo⟩ : ∃ nmo, mo.length = nmo := ⟨_, rfl⟩
            have hnmi : (nm : Int) = (n : Int) + (nmo : Int) := by have := hkm.len; have := HTk.out.ln; omega
            have hnm150 : nm ≤ 150 := by have := hkm.few; omega
            have hnmo150 : nmo ≤ 150 := by omega
            have hnjc := htj.hnc
            have hcjc := htj.hc
            have HM := hide (And.intro hkm (And.intro hnm hnmo))
            have HTj := hide htj
            have HX3 := hide hbX
            have HW3 := hide (bthen HW13.out hbX)
            clear hkm htj hbX hLj hnm hnmo
            have hgx : w1.heap.size < wx.heap.size := (HTj.out.at_ wx HW3.out).2.2.1
            have hl12x : wo.heap.size < wx.heap.size := (HBd.out wx HX3.out).1.cells.2.2
            have HS : Hid (∀ W, Below wx.heap.size wx W → W.cell? ⟨wo.heap.size, 0, none⟩ = some (.int .i64 k) ∧ W.cell? ⟨wo.heap.size, 1, none⟩ = some (.slice Ak n ck) ∧ W.cell? ⟨w1.heap.size, j * 2, none⟩ = some (.int .i64 j) ∧ W.cell? ⟨w1.heap.size, j * 2 + 1, none⟩ = some (.slice Aj nj cj) ∧ Below wx.heap.size wx W) := hide (fun W hW => ⟨(HBd.out W (bthen HX3.out hW)).1.cells.1, (HBd.out W (bthen HX3.out hW)).1.cells.2.1, (HTj.out.at_ W (bthen HW3.out hW)).1, (HTj.out.at_ W (bthen HW3.out hW)).2.1, hW⟩)
            have HG1 : Hid (∀ W, Below wx.heap.size wx W → Calls Tryz.prog 26 #[.agg #[.int .i64 k, .slice Ak n ck], .agg #[.int .i64 j, .slice Aj nj cj]] W (RepPost k (some m) W)) := hide (fun W hW => by
              have := c_pMerge k Ak n ck l j Aj nj cj lj W (HBd.out W (bthen HX3.out hW)).2 (by omega) (by omega) (HBd.out W (bthen HX3.out hW)).1.slr (HTj.out.at_ W (bthen HW3.out hW)).2.2.2.1
              rw [HM.out.1.mrg] at this
              exact this)
            go_wp2_with fail
            go_cut [20, 21] from 133 to 141 (fun v u wc => BxCut k m nm wx v u wc)
            case first =>
              go_region_held3 (fun W => W.cell? ⟨wo.heap.size, 0, none⟩ = some (.int .i64 k) ∧ W.cell? ⟨wo.heap.size, 1, none⟩ = some (.slice Ak n ck) ∧ W.cell? ⟨w1.heap.size, j * 2, none⟩ = some (.int .i64 j) ∧ W.cell? ⟨w1.heap.size, j * 2 + 1, none⟩ = some (.slice Aj nj cj) ∧ Below wx.heap.size wx W)
                (first | exact HS.out _ (by assumption) | exact HS.out _ (bdrew (Below.refl _ _)) | exact HS.out _ h8 | exact HS.out _ (balloc h8 _) | exact HS.out _ (bset (bset h8 (Nat.le_refl _) _) (Nat.le_refl _) _) | (go_split_ands; first | exact HS.out _ (by assumption) | exact HS.out _ (bthen (by assumption) (by assumption)) | exact HS.out _ (balloc (by assumption) _) | exact HS.out _ (bdrew (balloc (Below.refl _ _) _)) | exact HS.out _ (balloc (bthen (by assumption) (by assumption)) _)))
                ((go_split_ands; go_at_call 26; refine (HG1.out _ (by assumption)).mono ?_; rintro e w8 hp; obtain ⟨hb8, A8, c8, rfl, hk1, hk2, hsn⟩ := RepPost.some' HM.out.2.1 hp; clear hp; have h8 : Below wx.heap.size wx w8 := bthen (by assumption) hb8; (try (obtain ⟨q0, q1, q2, q3⟩ := (((Blk.new wx 25 [.int .i64 0, .slice none 0 0]).drew).below hb8 (by simp)).all2; have q4 : wx.heap.size < w8.heap.size := (((Blk.new wx 25 [.int .i64 0, .slice none 0 0]).drew).below hb8 (by simp)).lt))))
              all_goals
                go_wp2_with fail
                go_meet
                first | exact BxCut.late h8 hsn hk1 hk2 | exact BxCut.early hb8 (by simpa using hsn) hk1 hk2
            case rest =>
              obtain ⟨w14, rfl⟩ : ∃ w14, w14 = wc := ⟨_, rfl⟩
              obtain ⟨b20, A20, c20, rfl, rfl, hle20, hB20, hb14⟩ := hcut
              clear HS HG1
              have H20 := hide hB20
              have HB14 := hide (bthen HX3.out hb14)
              have HW14 := hide (bthen HW3.out hb14)
              have hl20 := hB20.cells.2.2
              have hc20 := hB20.hnc
              have hc20' := hB20.hc
              clear hB20 hb14 hgx hl12x
              have hgx : w1.heap.size < w14.heap.size := (HTj.out.at_ w14 HW14.out).2.2.1
              have hl12x : wo.heap.size < w14.heap.size := (HBd.out w14 HB14.out).1.cells.2.2
              have HS : Hid (∀ W, Below w14.heap.size w14 W → W.cell? ⟨wo.heap.size, 0, none⟩ = some (.int .i64 k) ∧ W.cell? ⟨wo.heap.size, 1, none⟩ = some (.slice Ak n ck) ∧ W.cell? ⟨w1.heap.size, j * 2, none⟩ = some (.int .i64 j) ∧ W.cell? ⟨w1.heap.size, j * 2 + 1, none⟩ = some (.slice Aj nj cj) ∧ Below w14.heap.size w14 W) := hide (fun W hW => ⟨(HBd.out W (bthen HB14.out hW)).1.cells.1, (HBd.out W (bthen HB14.out hW)).1.cells.2.1, (HTj.out.at_ W (bthen HW14.out hW)).1, (HTj.out.at_ W (bthen HW14.out hW)).2.1, hW⟩)
              have HG2 : Hid (∀ W, Below w14.heap.size w14 W → Calls Tryz.prog 28 #[.agg #[.int .i64 k, .slice Ak n ck], .agg #[.int .i64 j, .slice Aj nj cj]] W (BehPost (some mo) W)) := hide (fun W hW => by
                have := c_pBehind k Ak n ck l j Aj nj cj lj W (HBd.out W (bthen HB14.out hW)).2 (by omega) (by omega) (HBd.out W (bthen HB14.out hW)).1.slr (HTj.out.at_ W (bthen HW14.out hW)).2.2.2.1
                rw [HM.out.1.beh] at this
                exact this)
              go_wp2_with fail
              go_cut [22, 23] from 142 to 150 (fun v u wc => LsCut mo nmo w14 v u wc)
              case first =>
                go_region_held3 (fun W => W.cell? ⟨wo.heap.size, 0, none⟩ = some (.int .i64 k) ∧ W.cell? ⟨wo.heap.size, 1, none⟩ = some (.slice Ak n ck) ∧ W.cell? ⟨w1.heap.size, j * 2, none⟩ = some (.int .i64 j) ∧ W.cell? ⟨w1.heap.size, j * 2 + 1, none⟩ = some (.slice Aj nj cj) ∧ Below w14.heap.size w14 W)
                  (first | exact HS.out _ (by assumption) | exact HS.out _ (bdrew (Below.refl _ _)) | exact HS.out _ h8 | exact HS.out _ (balloc h8 _) | exact HS.out _ (bset (bset h8 (Nat.le_refl _) _) (Nat.le_refl _) _) | (go_split_ands; first | exact HS.out _ (by assumption) | exact HS.out _ (bthen (by assumption) (by assumption)) | exact HS.out _ (balloc (by assumption) _) | exact HS.out _ (bdrew (balloc (Below.refl _ _) _)) | exact HS.out _ (balloc (bthen (by assumption) (by assumption)) _)))
                  ((go_split_ands; go_at_call 28; refine (HG2.out _ (by assumption)).mono ?_; rintro e w8 hp; obtain ⟨hb8, A8, c8, rfl, hk1, hk2, hsn⟩ := BehPost.some' HM.out.2.2 hp; clear hp; have h8 : Below w14.heap.size w14 w8 := bthen (by assumption) hb8))
                all_goals
                  go_wp2_with fail
                  go_meet
                  exact ⟨A8, c8, rfl, rfl, hk1, hk2, hsn.1.to' (Below.refl _ _), h8⟩
              case rest =>
                obtain ⟨w15, rfl⟩ : ∃ w15, w15 = wc := ⟨_, rfl⟩
                obtain ⟨A22, c22, rfl, rfl, hk22, hk22', hs22, hb15⟩ := hcut
                clear HS HG2
                have H22 : Hid (∀ W, Below w15.heap.size w15 W → SlR W W.heap.size 7 A22 nmo (mo.flatMap cR)) := hide (fun W h => hs22.to' h)
                have HB15 := hide (bthen HB14.out hb15)
                have HW15 := hide (bthen HW14.out hb15)
                have H20a : Hid (∀ W, Below w15.heap.size w15 W → Bx W b20 k A20 nm c20 m) := hide (fun W h => H20.out.to (bthen hb15 h))
                have hl20' : b20 < w15.heap.size := Nat.lt_of_lt_of_le hl20 hb15.size
                clear hs22 hb15 hgx hl12x hl20
                have hgx : w1.heap.size < w15.heap.size := (HTj.out.at_ w15 HW15.out).2.2.1
                have hl12x : wo.heap.size < w15.heap.size := (HBd.out w15 HB15.out).1.cells.2.2
                have HS : Hid (∀ W, Below w15.heap.size w15 W → W.cell? ⟨b20, 0, none⟩ = some (.int .i64 k) ∧ W.cell? ⟨b20, 1, none⟩ = some (.slice A20 nm c20) ∧ W.cell? ⟨w1.heap.size, j * 2, none⟩ = some (.int .i64 j) ∧ W.cell? ⟨w1.heap.size, j * 2 + 1, none⟩ = some (.slice Aj nj cj) ∧ Below w15.heap.size w15 W) := hide (fun W hW => ⟨(H20a.out W hW).cells.1, (H20a.out W hW).cells.2.1, (HTj.out.at_ W (bthen HW15.out hW)).1, (HTj.out.at_ W (bthen HW15.out hW)).2.1, hW⟩)
                have HG3 : Hid (∀ W, Below w15.heap.size w15 W → Calls Tryz.prog 28 #[.agg #[.int .i64 k, .slice A20 nm c20], .agg #[.int .i64 j, .slice Aj nj cj]] W (BehPost (some []) W)) := hide (fun W hW => by
                  have := c_pBehind k A20 nm c20 m j Aj nj cj lj W (HBd.out W (bthen HB15.out hW)).2 (by omega) (by omega) (H20a.out W hW).slr (HTj.out.at_ W (bthen HW15.out hW)).2.2.2.1
                  rw [HM.out.1.non] at this
                  exact this)
                go_wp2_with fail
                go_cut [24, 25] from 151 to 159 (fun v u wc => LsCut [] 0 w15 v u wc)
                case first =>
                  go_region_held3 (fun W => W.cell? ⟨b20, 0, none⟩ = some (.int .i64 k) ∧ W.cell? ⟨b20, 1, none⟩ = some (.slice A20 nm c20) ∧ W.cell? ⟨w1.heap.size, j * 2, none⟩ = some (.int .i64 j) ∧ W.cell? ⟨w1.heap.size, j * 2 + 1, none⟩ = some (.slice Aj nj cj) ∧ Below w15.heap.size w15 W)
                    (first | exact HS.out _ (by assumption) | exact HS.out _ (bdrew (Below.refl _ _)) | exact HS.out _ h8 | exact HS.out _ (balloc h8 _) | exact HS.out _ (bset (bset h8 (Nat.le_refl _) _) (Nat.le_refl _) _) | (go_split_ands; first | exact HS.out _ (by assumption) | exact HS.out _ (bthen (by assumption) (by assumption)) | exact HS.out _ (balloc (by assumption) _) | exact HS.out _ (bdrew (balloc (Below.refl _ _) _)) | exact HS.out _ (balloc (bthen (by assumption) (by assumption)) _)))
                    ((go_split_ands; go_at_call 28; refine (HG3.out _ (by assumption)).mono ?_; rintro e w8 hp; obtain ⟨hb8, A8, c8, rfl, hk1, hk2, hsn⟩ := BehPost.some' (m := []) (n := 0) rfl hp; clear hp; have h8 : Below w15.heap.size w15 w8 := bthen (by assumption) hb8))
                  all_goals
                    go_wp2_with fail
                    go_meet
                    exact ⟨A8, c8, rfl, rfl, hk1, hk2, hsn.1.to' (Below.refl _ _), h8⟩
                case rest =>
                  obtain ⟨w16, rfl⟩ : ∃ w16, w16 = wc := ⟨_, rfl⟩
                  obtain ⟨A24, c24, rfl, rfl, -, -, -, hb16⟩ := hcut
                  clear HS HG3
                  have HB16 := hide (bthen HB15.out hb16)
                  have HW16 := hide (bthen HW15.out hb16)
                  have HR : Hid (∀ W, Below w16.heap.size w16 W → Bx W b20 k A20 nm c20 m ∧ Bx W wo.heap.size k Ak n ck l ∧ SlR W W.heap.size 7 Aj nj (lj.flatMap cR) ∧ SlR W W.heap.size 7 A22 nmo (mo.flatMap cR)) := hide (fun W h => ⟨H20a.out W (bthen hb16 h), (HBd.out W (bthen HB16.out h)).1, (HTj.out.at_ W (bthen HW16.out h)).2.2.2.1, H22.out W (bthen hb16 h)⟩)
                  clear hb16 hgx hl12x hl20'
                  have hk1 : Hid (∀ W, Below w16.heap.size w16 W → Calls Tryz.prog 37 #[.slice A20 nm c20, .slice Ak n ck] W fun e w' => e = .returned (.bool true) ∧ Below W.heap.size W w') := hide (fun W h => by
                    obtain ⟨g1, g2, g3, g4⟩ := HR.out W h
                    have := c_lkeeps A20 nm c20 m Ak n ck l W (by omega) (by omega) g1.slr g2.slr
                    rw [HM.out.1.k1] at this
                    exact this)
                  have hk2 : Hid (∀ W, Below w16.heap.size w16 W → Calls Tryz.prog 37 #[.slice A20 nm c20, .slice Aj nj cj] W fun e w' => e = .returned (.bool true) ∧ Below W.heap.size W w') := hide (fun W h => by
                    obtain ⟨g1, g2, g3, g4⟩ := HR.out W h
                    have := c_lkeeps A20 nm c20 m Aj nj cj lj W (by omega) (by omega) g1.slr g3
                    rw [HM.out.1.k2] at this
                    exact this)
                  have hk3 : Hid (∀ W, Below w16.heap.size w16 W → Calls Tryz.prog 37 #[.slice Aj nj cj, .slice A22 nmo c22] W fun e w' => e = .returned (.bool true) ∧ Below W.heap.size W w') := hide (fun W h => by
                    obtain ⟨g1, g2, g3, g4⟩ := HR.out W h
                    have := c_lkeeps Aj nj cj lj A22 nmo c22 mo W (by omega) (by omega) g3 g4
                    rw [HM.out.1.k3] at this
                    exact this)
                  have f1 := fun x : BW w16 => (HR.out x.val x.ok).1.cells.2.1
                  have f2 := fun x : BW w16 => (HR.out x.val x.ok).2.1.cells.2.1
                  have f3 := fun x : BW w16 => (HTj.out.at_ x.val (bthen HW16.out x.ok)).2.1
                  have hw3 : IntKind.i64.wrap ((n : Int) + (nmo : Int)) = (n : Int) + (nmo : Int) := i64w (by omega) (by omega)
                  go_wp2_with fail
                  refine wp_region_bw w16 (Below.refl _ _) (by kernel_rfl) (by kernel_rfl) ?_
                  repeat (go_big_quiet_step ((go_at_call 37; first | with_reducible exact bw_call (hk1.out _ (BW.ok _)) | with_reducible exact bw_call (hk2.out _ (BW.ok _)) | with_reducible exact bw_call (hk3.out _ (BW.ok _)))))
                  refine wpQuiet_nil ?_
                  intro w17 hb17
                  clear hw3 f1 f2 f3 hk1 hk2 hk3
                  have HB17 := hide (bthen HB16.out hb17)
                  have HR2 : Hid (∀ W, Below w17.heap.size w17 W → Bx W wo.heap.size k Ak n ck l ∧ SlR W W.heap.size 7 A22 nmo (mo.flatMap cR)) := hide (fun W h => ⟨(HR.out W (bthen hb17 h)).2.1, (HR.out W (bthen hb17 h)).2.2.2⟩)
                  clear hb17 HR H20a
                  go_wp2_with fail
                  go_loopw [26] (fun i W => ∃ q : Nat, q ≤ nmo ∧ i = .int .i64 q ∧ Below w17.heap.size w17 W) (fun i _ => nmo - (intOf i).toNat)
                  case atStart => exact ⟨0, Nat.zero_le _, rfl, Below.refl _ _⟩
                  case round =>
                    obtain ⟨q, hq, rfl, hbY⟩ := hrel
                    obtain ⟨wy, rfl⟩ : ∃ wy, wy = wr := ⟨_, rfl⟩
                    by_cases hql : q < nmo
                    · have hqi : (q : Int) < (nmo : Int) := by omega
                      have hqm : q < mo.length := by have := HM.out.2.2; omega
                      obtain ⟨g1, g2⟩ := HR2.out wy hbY
                      obtain ⟨b22, o22, rfl, hbb⟩ := g2.some_of (by omega)
                      have hno := HM.out.1.no _ (List.getElem_mem hqm)
                      have f1 := fun x : BW wy => (HR2.out x.val (bthen hbY x.ok)).1.cells.2.1
                      have f2 := fun x : BW wy => (HR2.out x.val (bthen hbY x.ok)).2.cellsR (Below.refl _ _) hqm
                      generalize mo[q]'hqm = y at *
                      obtain ⟨yp, yn, yt, yo, yw, yk, yx⟩ := y
                      dsimp only at f2
                      have f3 := fun x : BW wy => (f2 x).2.1
                      have f4 := fun x : BW wy => (f2 x).2.2.1
                      clear f2
                      have hbl := g1.cells.2.2
                      have hF : Hid (∀ W, Below wy.heap.size wy W → Calls Tryz.prog 38 #[.slice Ak n ck, .int .i64 yp, .int .i64 yn] W fun e w' => e = .returned (.int .i64 (fdI (yp, yn) l)) ∧ W = w') := hide (fun W h => c_rFind Ak n ck l yp yn W (by omega) (HR2.out W (bthen hbY h)).1.slr)
                      change fdI (yp, yn) l < 0 at hno
                      generalize fdI (yp, yn) l = z at *
                      have hz : ¬ 0 ≤ z := by omega
                      have HY := hide hbY
                      clear hbY g1 g2 hno
                      go_wp2_with fail
                      refine wp_region_bw wy (Below.refl _ _) (by kernel_rfl) (by kernel_rfl) ?_
                      repeat (go_big_quiet_step ((go_at_call 38; exact bw_same (hF.out _ (BW.ok _)))))
                      refine wpQuiet_nil ?_
                      intro w18 hb18
                      clear f1 f3 f4
                      go_wp2_with fail
                      have hw1 : wrap64 ((q : Int) + 1) = ((q + 1 : Nat) : Int) := (Go.IntWalk.wrap64_in _ (by omega)).trans rfl
                      try rw [hw1]
                      clear hw1
                      refine ⟨⟨q + 1, hql, rfl, bthen HY.out hb18⟩, ?_⟩
                      show nmo - ((q : Int) + 1).toNat < nmo - ((q : Nat) : Int).toNat
                      omega
                    · obtain rfl : q = nmo := by omega
                      have HE := hide (bthen HB17.out hbY)
                      clear hbY
                      go_wp2_with fail
                      have hw1 : wrap64 ((j : Int) + 1) = ((j + 1 : Nat) : Int) := (Go.IntWalk.wrap64_in _ (by omega)).trans rfl
                      try rw [hw1]
                      clear hw1
                      refine ⟨⟨j + 1, hj3, rfl, HE.out⟩, ?_⟩
                      show 3 - ((j : Int) + 1).toNat < 3 - ((j : Nat) : Int).toNat
                      omega
          · obtain rfl : j = 3 := by omega
            have HE := hide (bthen HW13.out hbX)
            clear hbX
            go_wp2_with fail
            have hw1 : wrap64 ((k : Int) + 1) = ((k + 1 : Nat) : Int) := (Go.IntWalk.wrap64_in _ (by omega)).trans rfl
            try rw [hw1]
            clear hw1
            refine ⟨⟨k + 1, hlt, rfl, HE.out⟩, ?_⟩
            show 3 - ((k : Int) + 1).toNat < 3 - ((k : Nat) : Int).toNat
            omega
    · obtain rfl : k = 3 := by omega
      have HE := hide (bthen HB2.out.2.1 hbW)
      clear hbW
      go_wp2_with fail
      go_ret
      exact ⟨rfl, HE.out⟩
end Go.Proofs.YtcfbgelhggapjaaGreatDoor
/- ReplicaKeeps returns true for every input, and each argument reads afterwards as it read before. No condition but the row's own: the variable holds what the program's text lays. -/
namespace Go.Proofs.YtcfbgelhggapjaaGreatDoor
open Go.ChangeShapes Go.WideShapes Go.ChangeAt Go.RowKit
theorem keeps_reads (os : Os) {H : Type} (enc : TypeId × Value → H) : ∃ places, DataW.whole enc Tryz.prog ((laidWorld os).forCall (fun _ _ => 0) ⟨#[], #[.slice none 0 0, .int .i64 0, .int .i64 0, .string ⟨#[]⟩], []⟩).memory Tryz.f5.params.toList Rows.replicaKeepsSpec.vars false ((#[.slice none 0 0, .int .i64 0, .int .i64 0, .string ⟨#[]⟩] : Array Value)).toList 8 = some ([.nil, .lit (.int .i64 0), .lit (.int .i64 0), .lit (.string [])], [], places) :=
  ⟨[], by kernel_rfl⟩
set_option maxHeartbeats 1600000 in
set_option maxRecDepth 100000 in
theorem keeps_contract (H : Type) (enc : TypeId × Value → H) (W : World) (base : Nat) (args : Array Value) (ds gs : List (DataW H)) (before : List MemPlace)
    (hval0 : ∀ (j : Nat) t v, Tryz.f5.params[j]? = some t → args[j]? = some v → Value.okWide Tryz.prog W .any base t v)
    (hW : DataW.Whole enc Tryz.prog Tryz.f5.params.toList Rows.replicaKeepsSpec.vars false W args.toList ds gs before) (hL : laidMetH Tryz.prog Rows.replicaKeepsRow.laid W) :
    Calls Tryz.prog 5 args W fun e W' => ∃ v, e = .returned v ∧ Rows.replicaKeepsSpec.post enc Tryz.prog Tryz.f5 false true false false W args v W' := by
  have hR : RL W := rl_of hL
  have hval : ∀ (j : Nat) t v, Tryz.f5.params[j]? = some t → args[j]? = some v → Value.okWide Tryz.prog W .any base t v := hval0
  have hW' := hW
  obtain ⟨p, q, hA0, hV, rfl, hfz, hnd⟩ := hW
  have hA : DataW.TrodAll enc Tryz.prog W 0 (fun _ => true) true Tryz.f5.params.toList args.toList ds p := hA0
  have hA1 := hA
  rw [Tryz.params5] at hA hval
  obtain ⟨v0, v1, v2, v3, d0, d1, d2, d3, p0, p1, p2, p3, rfl, rfl, rfl, h0, h1, h2, h3⟩ := trodAll_four hA
  obtain ⟨rfl, rfl⟩ := trodVars_none hV
  obtain ⟨A0, x0, c0, rfl, hn0, hc0, hw0, hr0⟩ := open_sl4 (hval 0 22 v0 rfl rfl) h0
  obtain ⟨n1, rfl, rfl, rfl, w1⟩ := open_int Tryz.underlying3 (hval 1 3 v1 rfl rfl) h1
  have w1 := wf_of w1
  obtain ⟨n2, rfl, rfl, rfl, w2⟩ := open_int Tryz.underlying3 (hval 2 3 v2 rfl rfl) h2
  have w2 := wf_of w2
  obtain ⟨s3, rfl, rfl, rfl, w3⟩ := Go.ChangeMaps.open_string Tryz.underlying9 (hval 3 9 v3 rfl rfl) h3
  refine (c_Keeps A0 x0.length c0 x0 n1 n2 s3 W hR (by omega) hw0 rfl hr0 w1.1 w1.2 w2.1 w2.2).mono fun e W' ⟨he, hB⟩ => ?_
  subst he
  refine ⟨_, rfl, _, _, _, [], _, [], hW', ?_, below_all hB ?_ hA1, rfl, hB.frame _, fun h => by cases h⟩
  · exact trodAll_mk1 (shut_bool Tryz.underlying4 true)
  · rw [Tryz.params5]
    intro t ht
    simp only [List.mem_cons, List.not_mem_nil, or_false] at ht
    rcases ht with rfl | rfl | rfl | rfl <;> exact ⟨by kernel_rfl, of_decide_eq_true (by kernel_rfl)⟩
set_option maxRecDepth 100000 in
theorem keeps_lifted (os : Os) (started : os.Started) (H : Type) (enc : TypeId × Value → H) (F : Stop.Interp) :
    ReturnsInHanded {} Tryz.checked os 5 .any ((OpenSpec.ofChange Rows.replicaKeepsSpec).preRow enc Tryz.prog Tryz.f5 Rows.replicaKeepsRow.domain false Rows.replicaKeepsRow.laid) (((OpenSpec.ofChange Rows.replicaKeepsSpec).at F).post enc Tryz.prog Tryz.f5 false true false false) := by
  obtain ⟨places, hx⟩ := keeps_reads os enc
  refine returnsInHanded_of_row (C := Tryz.checked) (s := OpenSpec.ofChange Rows.replicaKeepsSpec) Tryz.own started (by kernel_rfl) Tryz.func5
    (witness_row_at (enc := enc) (C := Tryz.checked) false (laidWorld os) #[.slice none 0 0, .int .i64 0, .int .i64 0, .string ⟨#[]⟩] rfl (by kernel_rfl) (by kernel_rfl) (by kernel_rfl)
      (OpenSpec.preRow_of_cond 8 hx (by kernel_rfl) (fun k hk => by cases hk) (by kernel_rfl) (laid_met os _))) ?_
  intro W base args ds gs before hval hW _ _ _ hL _ _
  exact keeps_contract H enc W base args ds gs before hval hW hL
/-- ReplicaKeeps: whatever the input, true; the input reads as it did. -/
theorem keeps_said : Rows.ReplicaKeepsSaid :=
  OpenClaim.holds_of_cond 5 Tryz.f5 rfl rfl rfl rfl rfl rfl rfl ⟨rfl, rfl, rfl, rfl, rfl⟩ rfl rfl rfl rfl rfl (by kernel_rfl) Tryz.func5 (by kernel_rfl)
    (of_decide_eq_true (by kernel_rfl)) (by unfold Func.isWrapper; first | (rw [if_pos (by decide +kernel)]; kernel_rfl) | (rw [if_neg (by decide +kernel)]; exact ⟨rfl, rfl⟩))
    (fun os started H enc _ F => by rw [OpenClaim.pre_eq_preRow]; exact keeps_lifted os started H enc F)
/-- no parameter wants a stand-in; the program's own looks are off -/
theorem keeps_plain (f : FuncId) (fn : Func) (hf : Tryz.pinned.checked.prog.funcNamed "slatewall/slatewalllaw35.ReplicaKeeps" = some f) (hfn : Tryz.pinned.checked.prog.funcs[f]? = some fn) :
    false = Tryz.pinned.checked.prog.looks [] ∧ ∀ (j : Nat) t, fn.params[j]? = some t → Tryz.pinned.checked.prog.wantsStandIn t = false := by
  obtain rfl : f = 5 := Option.some.inj ((show Tryz.prog.funcNamed "slatewall/slatewalllaw35.ReplicaKeeps" = some 5 by kernel_rfl).symm.trans hf) |>.symm
  obtain rfl : fn = Tryz.f5 := (Option.some.inj (Tryz.func5.symm.trans hfn)).symm
  refine ⟨by kernel_rfl, fun j t ht => ?_⟩
  rw [Tryz.params5] at ht
  have hm : t ∈ [22, 3, 3, 9] := by simpa using Array.mem_of_getElem? ht
  have hall : ([22, 3, 3, 9].all fun u => !Tryz.prog.wantsStandIn u) = true := by kernel_rfl
  exact (show Tryz.prog.wantsStandIn t = false by simpa using List.all_eq_true.1 hall t hm)
/-- THE CARD of ReplicaKeeps. -/
theorem keeps_holds : Rows.ReplicaKeepsCardSaid :=
  Claim7.holds_tied_plain_at .later [] _ _ _ _ keeps_said (fun _ h => by cases h) (by kernel_rfl) (fun _ h => by cases h) replicaKeeps_row_tie rfl ⟨rfl, rfl⟩ (by kernel_rfl) rfl keeps_plain (by kernel_rfl)
end Go.Proofs.YtcfbgelhggapjaaGreatDoor
#print axioms Go.Proofs.YtcfbgelhggapjaaGreatDoor.keeps_holds
