/- Replica: the law of correcting. -/
import Derived.Test.YtcfbgelhggapjaaGreatDoorQ19
import Derived.Test.YtcfbgelhggapjaaGreatDoorQ18
import Derived.Test.YtcfbgelhggapjaaGreatDoorQ17
import Derived.ChangeMaps5
namespace Go.Proofs.YtcfbgelhggapjaaGreatDoor
open Go.RowKit Go.Shelf
theorem fil_snoc (f : Rc → Bool) (l : List Rc) {k : Nat} (hk : k < l.length) : (l.take (k + 1)).filter f = (l.take k).filter f ++ if f (l[k]) then [l[k]] else [] := by
  rw [List.take_succ_eq_append_getElem hk, List.filter_append]
  by_cases h : f l[k] = true
  · rw [List.filter_cons_of_pos h, List.filter_nil, if_pos h]
  · rw [List.filter_cons_of_neg h, List.filter_nil, if_neg h]
theorem fil_len (f : Rc → Bool) (l : List Rc) (k : Nat) : ((l.take k).filter f).length ≤ k := by
  have := List.length_filter_le f (l.take k)
  rw [List.length_take] at this
  omega
theorem cnt_snoc (f : Rc → Bool) (l : List Rc) {k : Nat} (hk : k < l.length) : (l.take (k + 1)).countP f = (l.take k).countP f + if f (l[k]) then 1 else 0 := by
  rw [List.take_succ_eq_append_getElem hk, List.countP_append, List.countP_cons, List.countP_nil, Nat.zero_add]
theorem fold_le2 (l : List Rc) : (foldL l).length ≤ l.length := by
  unfold foldL
  refine Nat.le_trans (List.length_filterMap_le _ _) (Nat.le_trans (List.length_filter_le _ _) ?_)
  rw [(ord_perm l).length_eq]
  exact Nat.le_refl _
set_option linter.unusedSimpArgs false in
set_option maxRecDepth 100000 in
set_option maxHeartbeats 16000000 in
theorem c_Corrected (A : Option Addr) (N c : Nat) (xs : List I4) (which at_ : Int) (text : ByteArray) (w : World) (hR : RL w) (hN : N ≤ 9223372036854775807) (hx : ∀ x ∈ xs, ok4 x) (hl : xs.length = N) (hr : SlR w w.heap.size 4 A xs.length (xs.flatMap c4))
    (hw1' : -9223372036854775808 ≤ which) (hw2' : which ≤ 9223372036854775807) (ha1 : -9223372036854775808 ≤ at_) (ha2 : at_ ≤ 9223372036854775807) :
    Calls Tryz.prog 6 #[.slice A N c, .int .i64 which, .int .i64 at_, .string text] w fun e w' => e = .returned (.bool true) ∧ Below w.heap.size w w' := by
  have hw0 := hR.lt
  have HRw := hide hR
  have HX := hide (And.intro hx (And.intro hl hr))
  clear hx hl hr
  obtain ⟨l0, hl0⟩ : ∃ l0, (madL xs)[0]! = l0 := ⟨_, rfl⟩
  obtain ⟨n, hn⟩ : ∃ n, l0.length = n := ⟨_, rfl⟩
  have HL := hide (And.intro hl0 hn)
  clear hl0 hn
  go_enter Tryz.func6, Tryz.ntmps6
  go_upto_region 2 with (go_at_call 10; refine (c_lsane w HRw.out).mono ?_; rintro e w1 ⟨rfl, hb1⟩; have HB1 := hide hb1; clear hb1)
  go_upto_region 5 with (go_at_call 11; refine (c_Made A N c xs w1 hN HX.out.1 HX.out.2.1 (HX.out.2.2.to' HB1.out)).mono ?_; rintro e w2 ⟨rfl, hT, hb2⟩; obtain ⟨A0, c0, k0, k0', h0⟩ := hT.bx (k := 0) (by omega) HL.out.1 HL.out.2; have HB2 := hide (And.intro hb2 (And.intro (bthen HB1.out hb2) (HRw.out.to' (bthen HB1.out hb2)))); have H0 : Hid (∀ W, Below w2.heap.size w2 W → W.cell? ⟨w1.heap.size, 0, none⟩ = some (.int .i64 0) ∧ W.cell? ⟨w1.heap.size, 1, none⟩ = some (.slice A0 n c0) ∧ w1.heap.size < W.heap.size ∧ SlR W W.heap.size 7 A0 n (l0.flatMap cR)) := hide h0; clear hb2 hT h0; obtain ⟨x0, x1, x2, x3⟩ := H0.out w2 (Below.refl _ _); clear x3)
  have g10 : Bx (w2.alloc (.cells #[.int .i64 0, .slice A0 n c0] 25)) w2.heap.size 0 A0 n c0 l0 := ⟨Blk.new w2 25 [.int .i64 0, .slice A0 n c0], (H0.out w2 (Below.refl _ _)).2.2.2.to' (balloc (Below.refl _ _) _), k0, k0'⟩
  have hb3 := balloc (Below.refl w2.heap.size w2) (.cells #[.int .i64 0, .slice A0 n c0] 25)
  generalize w2.alloc (.cells #[.int .i64 0, .slice A0 n c0] 25) = w3 at *
  have H10 := hide g10
  have HB3 := hide hb3
  have hl3 := g10.cells.2.2
  have HBa : Hid (∀ W, Below w3.heap.size w3 W → Bx W w2.heap.size 0 A0 n c0 l0 ∧ RL W ∧ Below w.heap.size w W) := hide (fun W h => ⟨H10.out.to h, HB2.out.2.2.to' (bthen HB3.out h), bthen HB2.out.2.1 (bthen HB3.out h)⟩)
  clear g10 hb3 x0 x1 x2
  obtain ⟨x0, x1, x2⟩ := H10.out.cells
  by_cases hnz : n = 0
  · subst hnz
    go_wp2_with fail
    go_ret
    exact ⟨rfl, (HBa.out w3 (Below.refl _ _)).2.2⟩
  · have hn0 : 0 < n := by omega
    have hnzi : ¬ ((n : Int) = 0) := by omega
    have hnzq : ((n : Int) == 0) = false := by rw [beq_eq_false_iff_ne]; omega
    obtain ⟨tx, htx⟩ : ∃ tx, text.extract 0 (min text.size 20) = tx := ⟨_, rfl⟩
    have htx20 : tx.size ≤ 4000 := by rw [← htx]; simp only [ByteArray.size_extract]; omega
    have hmn : ((min (text.size : Int) 20) : Int) = ((min text.size 20 : Nat) : Int) := by omega
    have hmn2 : (min text.size 20 : Nat) ≤ text.size := by omega
    go_upto_region 8 with (fail)
    try rw [htx]
    clear htx hmn hmn2
    obtain ⟨jj, hjj⟩ : ∃ jj, pkN which n = jj := ⟨_, rfl⟩
    have hjn : jj < n := by rw [← hjj]; exact pkN_lt which n hn0
    have hpk2 : ∀ W : World, Calls Tryz.prog 21 #[.int .i64 which, .int .i64 n] W fun e w' => e = .returned (.int .i64 (jj : Nat)) ∧ W = w' := fun W => by
      have := c_lpick which n W hw1' hw2' (by omega) (by omega)
      rw [pk_N which n hn0, hjj] at this
      exact this
    have hu := pk_range at_ 1000 (by omega)
    have hpk1 : ∀ W : World, Calls Tryz.prog 21 #[.int .i64 at_, .int .i64 1000] W fun e w' => e = .returned (.int .i64 (pk at_ 1000)) ∧ W = w' := fun W => c_lpick at_ 1000 W ha1 ha2 (by omega) (by omega)
    obtain ⟨bk, ok, rfl, hbk⟩ := H10.out.slr.some_of hn0
    have hjl : jj < l0.length := by rw [HL.out.2]; exact hjn
    have hCm := cor_mad xs (mn := 500 + pk at_ 1000) (by omega) htx20 (o := l0[jj]'hjl) (by rw [HL.out.1]; exact List.getElem_mem hjl)
    rw [HL.out.1] at hCm
    have hn24 : n ≤ 24 := by have := hCm.1; rw [HL.out.2] at this; exact this
    obtain ⟨-, cc, bef, x, hCA⟩ := hCm
    have HCy : Hid (∀ W, Below w3.heap.size w3 W → _) := hide (fun W hW => ((HBa.out W hW).1.slr.cellsR (Below.refl _ _) hjl).2)
    generalize l0[jj]'hjl = o at *
    obtain ⟨qp, qn, qt, qo, qw, qk, qx⟩ := o
    dsimp only at HCy
    obtain ⟨e1, e2, e3, e4, e5⟩ := hCA.fields
    obtain ⟨xp, xn, xt, xo, xw, xk, xx⟩ := x
    dsimp only at e1 e2 e3 e4 e5
    have e1' := e1.symm
    have e2' := e2.symm
    have e3' := e3.symm
    clear e1 e2 e3
    subst e1' e2' e3' e4 e5
    have HC := hide hCA
    have hne := hCA.ne
    obtain ⟨nb, hnb⟩ : ∃ nb, bef.length = nb := ⟨_, rfl⟩
    rw [hnb] at hne
    obtain ⟨ncc, hncc⟩ : ∃ nc, cc.length = nc := ⟨_, rfl⟩
    have hcc150 : ncc ≤ 150 := by rw [← hncc]; exact (vr_iff.1 hCA.v1).2.1
    obtain ⟨nf, hnf⟩ : ∃ n, (foldL l0).length = n := ⟨_, rfl⟩
    obtain ⟨ng, hng⟩ : ∃ n, (foldL cc).length = n := ⟨_, rfl⟩
    have hnf150 : nf ≤ 150 := by rw [← hnf]; have := fold_le2 l0; have := HL.out.2; omega
    have hng150 : ng ≤ 150 := by rw [← hng]; have := fold_le2 cc; omega
    have HNs := hide (And.intro hnb (And.intro hncc (And.intro hnf hng)))
    clear hCA hjj hnb hncc hnf hng
    generalize pk at_ 1000 = u at *
    have hji : (jj : Int) < (n : Int) := by omega
    have hji0 : (0 : Int) ≤ (jj : Int) := by omega
    clear x0 x1 x2
    have HS : Hid (∀ W, Below w3.heap.size w3 W → W.cell? ⟨w2.heap.size, 0, none⟩ = some (.int .i64 0) ∧ W.cell? ⟨w2.heap.size, 1, none⟩ = some (.slice (some ⟨bk, ok, none⟩) n c0) ∧ W.cell? ⟨bk, ok + jj * 7, none⟩ = some (.int .i64 qp) ∧ W.cell? ⟨bk, ok + jj * 7 + 1, none⟩ = some (.int .i64 qn) ∧ W.cell? ⟨bk, ok + jj * 7 + 2, none⟩ = some (.int .i64 qt) ∧ W.cell? ⟨bk, ok + jj * 7 + 3, none⟩ = some (.int .i64 qo) ∧ W.cell? ⟨bk, ok + jj * 7 + 4, none⟩ = some (.int .i64 qw) ∧ W.cell? ⟨bk, ok + jj * 7 + 5, none⟩ = some (.int .i64 qk) ∧ W.cell? ⟨bk, ok + jj * 7 + 6, none⟩ = some (.string qx) ∧ Below w3.heap.size w3 W) := hide (fun W hW => by
      obtain ⟨y0, y1, y2, y3, y4, y5, y6⟩ := HCy.out W hW
      obtain ⟨x0, x1, x2⟩ := (HBa.out W hW).1.cells
      exact ⟨x0, x1, y0, y1, y2, y3, y4, y5, y6, hW⟩)
    go_cut [11] from 45 to 53 (fun v wx => RcCut ⟨qp, qn, qt, qo, qw, qk, qx⟩ w3 v wx)
    case first =>
      go_region_held3 (fun W => W.cell? ⟨w2.heap.size, 0, none⟩ = some (.int .i64 0) ∧ W.cell? ⟨w2.heap.size, 1, none⟩ = some (.slice (some ⟨bk, ok, none⟩) n c0) ∧ W.cell? ⟨bk, ok + jj * 7, none⟩ = some (.int .i64 qp) ∧ W.cell? ⟨bk, ok + jj * 7 + 1, none⟩ = some (.int .i64 qn) ∧ W.cell? ⟨bk, ok + jj * 7 + 2, none⟩ = some (.int .i64 qt) ∧ W.cell? ⟨bk, ok + jj * 7 + 3, none⟩ = some (.int .i64 qo) ∧ W.cell? ⟨bk, ok + jj * 7 + 4, none⟩ = some (.int .i64 qw) ∧ W.cell? ⟨bk, ok + jj * 7 + 5, none⟩ = some (.int .i64 qk) ∧ W.cell? ⟨bk, ok + jj * 7 + 6, none⟩ = some (.string qx) ∧ Below w3.heap.size w3 W)
        (first | exact HS.out _ (by assumption) | exact HS.out _ (bdrew (Below.refl _ _)) | exact HS.out _ h8 | exact HS.out _ (balloc h8 _) | exact HS.out _ (bset (bset h8 (Nat.le_refl _) _) (Nat.le_refl _) _) | (go_split_ands; first | exact HS.out _ (by assumption) | exact HS.out _ (bthen (by assumption) (by assumption)) | exact HS.out _ (balloc (by assumption) _) | exact HS.out _ (bdrew (balloc (Below.refl _ _) _)) | exact HS.out _ (balloc (bthen (by assumption) (by assumption)) _)))
        ((go_at_call 21; with_reducible refine (hpk2 _).mono ?_; rintro e w' ⟨rfl, rfl⟩))
      all_goals
        go_wp2_with fail
        go_meet
        exact RcCut.mk w3 qp qn qt qo qw qk qx
    case rest =>
      obtain ⟨w4, rfl⟩ : ∃ w4, w4 = wc := ⟨_, rfl⟩
      obtain ⟨b11, rfl, hle11, g11, hb4⟩ := hcut
      clear HS HCy hpk2
      have HB4 := hide hb4
      have H11 := hide g11
      have hl4 : w2.heap.size < w4.heap.size := (HBa.out w4 HB4.out).1.cells.2.2
      have hl11 := g11.lt
      clear hb4 g11 hji hji0
      have HS : Hid (∀ W, Below w4.heap.size w4 W → W.cell? ⟨w2.heap.size, 0, none⟩ = some (.int .i64 0) ∧ W.cell? ⟨w2.heap.size, 1, none⟩ = some (.slice (some ⟨bk, ok, none⟩) n c0) ∧ W.cell? ⟨b11, 0, none⟩ = some (.int .i64 qp) ∧ W.cell? ⟨b11, 1, none⟩ = some (.int .i64 qn) ∧ Below w4.heap.size w4 W) := hide (fun W hW => by
        obtain ⟨⟨z0, z1, z2, z3, z4, z5, z6⟩, -⟩ := (H11.out.below hW H11.out.lt).all7
        obtain ⟨x0, x1, x2⟩ := (HBa.out W (bthen HB4.out hW)).1.cells
        exact ⟨x0, x1, z0, z1, hW⟩)
      have HGv : Hid (∀ W, Below w4.heap.size w4 W → Calls Tryz.prog 22 #[.agg #[.int .i64 0, .slice (some ⟨bk, ok, none⟩) n c0], .int .i64 (IntKind.i64.wrap (500 + u)), .int .i64 qp, .int .i64 qn, .int .i64 7, .string tx] W (RepPost 0 (some cc) W)) := hide (fun W hW => by
        have h9 := HBa.out W (bthen HB4.out hW)
        have := c_pCorrect 0 (500 + u) qp qn 7 tx (some ⟨bk, ok, none⟩) n c0 l0 W h9.2.1 h9.1.hnc h9.1.hc h9.1.slr
        rw [HC.out.cor] at this
        rw [show IntKind.i64.wrap (500 + u) = 500 + u from i64w (by omega) (by omega)]
        exact this)
      go_wp2_with fail
      go_cut [12, 13] from 54 to 66 (fun v u wx => BxCut 0 cc ncc w4 v u wx)
      case first =>
        go_region_held3 (fun W => W.cell? ⟨w2.heap.size, 0, none⟩ = some (.int .i64 0) ∧ W.cell? ⟨w2.heap.size, 1, none⟩ = some (.slice (some ⟨bk, ok, none⟩) n c0) ∧ W.cell? ⟨b11, 0, none⟩ = some (.int .i64 qp) ∧ W.cell? ⟨b11, 1, none⟩ = some (.int .i64 qn) ∧ Below w4.heap.size w4 W)
          (first | exact HS.out _ (by assumption) | exact HS.out _ (bdrew (Below.refl _ _)) | exact HS.out _ h8 | exact HS.out _ (balloc h8 _) | exact HS.out _ (bset (bset h8 (Nat.le_refl _) _) (Nat.le_refl _) _) | (go_split_ands; first | exact HS.out _ (by assumption) | exact HS.out _ (bthen (by assumption) (by assumption)) | exact HS.out _ (balloc (by assumption) _) | exact HS.out _ (bdrew (balloc (Below.refl _ _) _)) | exact HS.out _ (balloc (bthen (by assumption) (by assumption)) _)))
          (first | (go_at_call 21; with_reducible refine (hpk1 _).mono ?_; rintro e w' ⟨rfl, rfl⟩) | (go_split_ands; go_at_call 22; with_reducible refine (HGv.out _ (by assumption)).mono ?_; rintro e w8 hp; obtain ⟨hb8, A8, c8, rfl, hk1, hk2, hsn⟩ := RepPost.some' HNs.out.2.1 hp; clear hp; have h8 : Below w4.heap.size w4 w8 := bthen (by assumption) hb8; (try (obtain ⟨q0, q1, q2, q3⟩ := (((Blk.new w4 25 [.int .i64 0, .slice none 0 0]).drew).below hb8 (by simp)).all2; have q4 : w4.heap.size < w8.heap.size := (((Blk.new w4 25 [.int .i64 0, .slice none 0 0]).drew).below hb8 (by simp)).lt))))
        all_goals
          go_wp2_with fail
          go_meet
          first | exact BxCut.late h8 hsn hk1 hk2 | exact BxCut.early hb8 (by simpa using hsn) hk1 hk2
      case rest =>
        obtain ⟨w5, rfl⟩ : ∃ w5, w5 = wc := ⟨_, rfl⟩
        obtain ⟨b12, A12, c12, rfl, rfl, hle12, hB12, hb5⟩ := hcut
        clear HS HGv hpk1
        have HQ : Hid (∀ W, Below w5.heap.size w5 W → Bx W w2.heap.size 0 (some ⟨bk, ok, none⟩) n c0 l0 ∧ Bx W b12 0 A12 ncc c12 cc ∧ Blk W b11 49 (cR ⟨qp, qn, qt, qo, qw, qk, qx⟩) ∧ RL W ∧ Below w.heap.size w W) := hide (fun W hW => ⟨(HBa.out W (bthen HB4.out (bthen hb5 hW))).1, hB12.to hW, H11.out.below (bthen hb5 hW) H11.out.lt, (HBa.out W (bthen HB4.out (bthen hb5 hW))).2.1, (HBa.out W (bthen HB4.out (bthen hb5 hW))).2.2⟩)
        have hl5 : w2.heap.size < w5.heap.size := (HQ.out w5 (Below.refl _ _)).1.cells.2.2
        have hl511 : b11 < w5.heap.size := (HQ.out w5 (Below.refl _ _)).2.2.1.lt
        have hl512 := hB12.cells.2.2
        clear hb5 hB12 hl4 hl11 hl3
        obtain ⟨x0, x1, x2⟩ := (HQ.out w5 (Below.refl _ _)).1.cells
        obtain ⟨⟨z0, z1, z2, z3, z4, z5, z6⟩, -⟩ := (HQ.out w5 (Below.refl _ _)).2.2.1.all7
        clear z2 z3 z4 z5 z6
        obtain ⟨nb1, hnb1⟩ : ∃ m, m = nb + 1 := ⟨_, rfl⟩
        have hnb1l : (bef ++ [(⟨0, xn, xt, qp, qn, 7, tx⟩ : Rc)]).length = nb1 := by rw [List.length_append, HNs.out.1, hnb1]; rfl
        have hnb1i : (nb1 : Int) = (nb : Int) + 1 := by omega
        have hnb150 : nb ≤ 1000000 := by
          have h1 := HC.out.h1
          have h2 := HNs.out.1
          unfold histL at h1
          obtain ⟨r, -, h3⟩ := Option.map_eq_some_iff.1 h1
          have h4 : bef.length ≤ l0.length := by
            rw [← h3]
            unfold famL
            refine Nat.le_trans (List.length_filter_le _ _) ?_
            rw [(ord_perm l0).length_eq]
            exact Nat.le_refl _
          have := HL.out.2
          omega
        have HNb := hide (And.intro hnb1 hnb1l)
        clear hnb1 hnb1l
        go_upto_region 11 with (go_at_call 24; refine (c_pHistory 0 (some ⟨bk, ok, none⟩) n c0 l0 qp qn w5 (HQ.out w5 (Below.refl _ _)).2.2.2.1 (by omega) (HQ.out w5 (Below.refl _ _)).1.slr).mono ?_; rintro e w6 hp; rw [HC.out.v0, if_pos rfl, show histL l0 (qp, qn) = some bef from HC.out.h1] at hp; obtain ⟨hb, A14, c14, rfl, hk14, hk14', hsn⟩ := BehPost.some' HNs.out.1 hp; clear hp x0 x1 x2 z0 z1; have HB6 := hide hb; have H14 : Hid (∀ W, Below w6.heap.size w6 W → SlR W W.heap.size 7 A14 nb (bef.flatMap cR)) := hide (fun W h => hsn.1.to' h); clear hb hsn; obtain ⟨x0, x1, x2⟩ := (HQ.out w6 HB6.out).2.1.cells; obtain ⟨⟨z0, z1, z2, z3, z4, z5, z6⟩, -⟩ := (HQ.out w6 HB6.out).2.2.1.all7; clear z2 z3 z4 z5 z6; have hl611 := (HQ.out w6 HB6.out).2.2.1.lt)
        go_upto_region 12 with (go_at_call 24; refine (c_pHistory 0 A12 ncc c12 cc qp qn w6 (HQ.out w6 HB6.out).2.2.2.1 (by omega) (HQ.out w6 HB6.out).2.1.slr).mono ?_; rintro e w7 hp; rw [HC.out.v1, if_pos rfl, show histL cc (qp, qn) = some (bef ++ [⟨0, xn, xt, qp, qn, 7, tx⟩]) from HC.out.h2] at hp; obtain ⟨hb, A16, c16, rfl, hk16, hk16', hsn⟩ := BehPost.some' HNb.out.2 hp; clear hp x0 x1 x2 z0 z1; have HB7 := hide (bthen HB6.out hb); have H16 : Hid (∀ W, Below w7.heap.size w7 W → SlR W W.heap.size 7 A14 nb (bef.flatMap cR) ∧ SlR W W.heap.size 7 A16 nb1 ((bef ++ [(⟨0, xn, xt, qp, qn, 7, tx⟩ : Rc)]).flatMap cR)) := hide (fun W h => ⟨H14.out W (bthen hb h), hsn.1.to' h⟩); clear hb hsn; obtain ⟨x0, x1, x2⟩ := (HQ.out w7 HB7.out).1.cells)
        go_upto_region 13 with (go_at_call 13; refine (c_pFold 0 (some ⟨bk, ok, none⟩) n c0 l0 w7 (HQ.out w7 HB7.out).2.2.2.1 (by omega) (HQ.out w7 HB7.out).1.slr).mono ?_; rintro e w8 hp; rw [HC.out.v0, if_pos rfl] at hp; obtain ⟨hb, A18, c18, rfl, hk18, hk18', hsn⟩ := BehPost.some' HNs.out.2.2.1 hp; clear hp x0 x1 x2; have HB8 := hide (And.intro (bthen HB7.out hb) hb); have H18 : Hid (∀ W, Below w8.heap.size w8 W → SlR W W.heap.size 7 A18 nf ((foldL l0).flatMap cR)) := hide (fun W h => hsn.1.to' h); clear hb hsn; obtain ⟨x0, x1, x2⟩ := (HQ.out w8 HB8.out.1).2.1.cells)
        go_upto_region 14 with (go_at_call 13; refine (c_pFold 0 A12 ncc c12 cc w8 (HQ.out w8 HB8.out.1).2.2.2.1 (by omega) (HQ.out w8 HB8.out.1).2.1.slr).mono ?_; rintro e w9 hp; rw [HC.out.v1, if_pos rfl] at hp; obtain ⟨hb, A20, c20, rfl, hk20, hk20', hsn⟩ := BehPost.some' HNs.out.2.2.2 hp; clear hp x0 x1 x2; have HB9 := hide (bthen HB8.out.1 hb); have H20 : Hid (∀ W, Below w9.heap.size w9 W → (SlR W W.heap.size 7 A14 nb (bef.flatMap cR) ∧ SlR W W.heap.size 7 A16 nb1 ((bef ++ [(⟨0, xn, xt, qp, qn, 7, tx⟩ : Rc)]).flatMap cR)) ∧ SlR W W.heap.size 7 A18 nf ((foldL l0).flatMap cR) ∧ SlR W W.heap.size 7 A20 ng ((foldL cc).flatMap cR)) := hide (fun W h => ⟨H16.out W (bthen HB8.out.2 (bthen hb h)), H18.out W (bthen hb h), hsn.1.to' h⟩); clear hb hsn)
        have hSr : Calls Tryz.prog 15 #[.slice A16 nb c16, .slice A14 nb c14] w9 fun e w' => e = .returned (.bool true) ∧ Below w9.heap.size w9 w' := by
          obtain ⟨⟨g1, g2⟩, -, -⟩ := H20.out w9 (Below.refl _ _)
          have h2 := g2.upto (m := nb) (by have := HNb.out.1; omega)
          rw [flatR_take, List.take_append_of_le_length (by rw [HNs.out.1]; exact Nat.le_refl _), List.take_of_length_le (by rw [HNs.out.1]; exact Nat.le_refl _)] at h2
          have := c_rSameRecords A16 nb c16 bef A14 nb c14 bef w9 (by omega) (by omega) h2 g1
          rw [decide_eq_true rfl] at this
          exact this
        have hnbz : ¬ ((nb : Int) = 0) := by omega
        have hnbq : ((nb : Int) == 0) = false := by rw [beq_eq_false_iff_ne]; omega
        have hnbc : (nb : Int) ≤ (c16 : Int) := by have := HNb.out.1; omega
        obtain ⟨hw2, hw3⟩ : wrap64 ((nb : Int) + 1) = (nb : Int) + 1 ∧ IntKind.i64.wrap ((nb : Int) + 1) = (nb : Int) + 1 := ⟨(Go.IntWalk.wrap64_in _ (by omega)), i64w (by omega) (by omega)⟩
        go_upto_region 16 with (go_at_call 15; refine hSr.mono ?_; rintro e w10 ⟨rfl, hb10⟩; have HB10 := hide hb10; clear hb10)
        clear hw2 hw3 hSr
        have HR0 : Hid (∀ W, Below w10.heap.size w10 W → (SlR W W.heap.size 7 A14 nb (bef.flatMap cR) ∧ SlR W W.heap.size 7 A16 nb1 ((bef ++ [(⟨0, xn, xt, qp, qn, 7, tx⟩ : Rc)]).flatMap cR)) ∧ SlR W W.heap.size 7 A18 nf ((foldL l0).flatMap cR) ∧ SlR W W.heap.size 7 A20 ng ((foldL cc).flatMap cR)) := hide (fun W h => H20.out W (bthen HB10.out h))
        obtain ⟨b16, o16, rfl, hb16⟩ := (HR0.out w10 (Below.refl _ _)).1.2.some_of (by have := HNb.out.1; omega)
        have hxl : nb < (bef ++ [(⟨0, xn, xt, qp, qn, 7, tx⟩ : Rc)]).length := by rw [HNb.out.2]; have := HNb.out.1; omega
        have hxe : (bef ++ [(⟨0, xn, xt, qp, qn, 7, tx⟩ : Rc)])[nb]'hxl = ⟨0, xn, xt, qp, qn, 7, tx⟩ := by
          rw [List.getElem_append_right (by rw [HNs.out.1]; exact Nat.le_refl _)]
          simp [HNs.out.1]
        obtain ⟨-, y0, y1, y2, y3, y4, y5, y6⟩ := (HR0.out w10 (Below.refl _ _)).1.2.cellsR (Below.refl _ _) hxl
        rw [hxe] at y0 y1 y2 y3 y4 y5 y6
        dsimp only at y0 y1 y2 y3 y4 y5 y6
        have hnbl : (nb : Int) < (nb1 : Int) := by omega
        have hnb00 : (0 : Int) ≤ (nb : Int) := by omega
        clear hxl hxe
        go_upto_region 17 with (fail)
        have g22 := Blk.new w10 49 [.int .i64 0, .int .i64 xn, .int .i64 xt, .int .i64 qp, .int .i64 qn, .int .i64 7, .string tx]
        have hb11 := balloc (Below.refl w10.heap.size w10) (.cells #[.int .i64 0, .int .i64 xn, .int .i64 xt, .int .i64 qp, .int .i64 qn, .int .i64 7, .string tx] 49)
        generalize w10.alloc (.cells #[.int .i64 0, .int .i64 xn, .int .i64 xt, .int .i64 qp, .int .i64 qn, .int .i64 7, .string tx] 49) = w11 at *
        have HB11 := hide (bthen HB9.out (bthen HB10.out hb11))
        have HR : Hid (∀ W, Below w11.heap.size w11 W → (SlR W W.heap.size 7 A14 nb (bef.flatMap cR) ∧ SlR W W.heap.size 7 (some ⟨b16, o16, none⟩) nb1 ((bef ++ [(⟨0, xn, xt, qp, qn, 7, tx⟩ : Rc)]).flatMap cR) ∧ SlR W W.heap.size 7 A18 nf ((foldL l0).flatMap cR) ∧ SlR W W.heap.size 7 A20 ng ((foldL cc).flatMap cR)) ∧ Blk W w10.heap.size 49 [.int .i64 0, .int .i64 xn, .int .i64 xt, .int .i64 qp, .int .i64 qn, .int .i64 7, .string tx] ∧ Below w.heap.size w W) := hide (fun W h => ⟨⟨(HR0.out W (bthen hb11 h)).1.1, (HR0.out W (bthen hb11 h)).1.2, (HR0.out W (bthen hb11 h)).2.1, (HR0.out W (bthen hb11 h)).2.2⟩, g22.below h g22.lt, (HQ.out W (bthen HB11.out h)).2.2.2.2⟩)
        obtain ⟨⟨z0, z1, z2, z3, z4, z5, z6⟩, -⟩ := g22.all7
        have hz22 := g22.lt
        obtain ⟨⟨q0, q1, q2, q3, q4, q5, q6⟩, -⟩ := (HQ.out w11 HB11.out).2.2.1.all7
        have hl1111 := (HQ.out w11 HB11.out).2.2.1.lt
        clear y0 y1 y2 y3 y4 y5 y6 g22 hb11 q2 q3 q4 q5 q6 hnbl hnb00 hnbz hnbq hnbc
        go_upto_region 19 with (fail)
        clear q0 q1 z0 z1 z2 z3 z4 z5 z6 hl1111 hl611 hl511 hl512 hl5 HR0 H20 H18 H16 H14 HQ
        have HCs := hide (And.intro HC.out.same (And.intro HC.out.held HC.out.last))
        have HNf := hide (And.intro HNs.out.2.2.1 HNs.out.2.2.2)
        clear HC HNs
        generalize foldL l0 = F at *
        generalize foldL cc = G at *
        have hnf64 : nf ≤ 9223372036854775807 := by omega
        have hng64 : ng ≤ 9223372036854775807 := by omega
        obtain ⟨j0, hj0, hz0, hz1, hz2⟩ := info_parts Tryz.infoRec
        have h1011 : w10.heap.size < w11.heap.size := hz22
        go_wp2_with fail
        go_loopw [23, 25] (fun v i W => ∃ k : Nat, k ≤ nf ∧ i = .int .i64 k ∧ W.ownsRow w11.heap.size 49 7 v ((F.take k).filter (fun y => !inK bef y)).length (((F.take k).filter (fun y => !inK bef y)).flatMap cR) ∧ Below w11.heap.size w11 W) (fun _ i _ => nf - (intOf i).toNat)
        case atStart => exact ⟨0, Nat.zero_le _, rfl, (by exact World.ownsRow_nil _ _ _ _), Below.refl _ _⟩
        case round =>
          obtain ⟨k, hk, rfl, hown, hb⟩ := hrel
          obtain ⟨wy, rfl⟩ : ∃ wy, wy = wr := ⟨_, rfl⟩
          obtain ⟨⟨g14, g16, g18, g20⟩, gX, gW⟩ := HR.out wy hb
          obtain ⟨Av, cv, rfl, hv1, hv2, hv3⟩ := SlR.of_own hown
          by_cases hlt : k < nf
          · have hki : (k : Int) < (nf : Int) := by omega
            have hkl : k < F.length := by have := HNf.out.1; omega
            obtain ⟨A', hA', hcut⟩ := cut_one g18 hk18 hkl
            have hFS := fil_snoc (fun y => !inK bef y) F hkl
            have hlen := fil_len (fun y => !inK bef y) F k
            obtain ⟨b18, o18, rfl, hb18⟩ := g18.some_of (by omega)
            have HCy : Hid (∀ W, Below wy.heap.size wy W → _) := hide (fun W hW => ((HR.out W (bthen hb hW)).1.2.2.1.cellsR (Below.refl _ _) hkl).2)
            generalize F[k]'hkl = y at *
            obtain ⟨yp, yn, yt, yo, yw, yk, yx⟩ := y
            dsimp only at HCy
            obtain ⟨b, hbK⟩ : ∃ b, inK bef ⟨yp, yn, yt, yo, yw, yk, yx⟩ = b := ⟨_, rfl⟩
            have hkp : Calls Tryz.prog 37 #[.slice A14 nb c14, .slice A' 1 (c18 - k)] wy fun e w' => e = .returned (.bool b) ∧ Below wy.heap.size wy w' := by
              have := c_lkeeps A14 nb c14 bef A' 1 (c18 - k) [(⟨yp, yn, yt, yo, yw, yk, yx⟩ : Rc)] wy (by omega) (by omega) g14 hA'
              rw [show kpB bef [(⟨yp, yn, yt, yo, yw, yk, yx⟩ : Rc)] = b from hbK] at this
              exact this
            have HFS := hide hFS
            have HO := hide (And.intro hown hb)
            have hww := hb.size
            rw [hbK] at hFS
            have HF1 := hide hFS
            clear hFS HFS hown hb hv3 g14 g16 g18 g20 gX gW hbK hA'
            generalize (F.take k).filter (fun y => !inK bef y) = mo at *
            cases b with
            | true =>
              go_wp2_with (go_at_call 37; refine hkp.mono ?_; clear hkp; rintro e w12 ⟨rfl, hb12⟩; have HB12 := hide hb12; clear hb12)
              have hw1 : wrap64 ((k : Int) + 1) = ((k + 1 : Nat) : Int) := (Go.IntWalk.wrap64_in _ (by omega)).trans rfl
              try rw [hw1]
              clear hw1
              refine ⟨⟨k + 1, hlt, rfl, ?_, bthen HO.out.2 HB12.out⟩, ?_⟩
              · have := own_to HO.out.1 HB12.out
                rw [HF1.out]
                simpa using this
              · show nf - ((k : Int) + 1).toNat < nf - ((k : Nat) : Int).toNat
                omega
            | false =>
              go_upto_region 25 with (go_at_call 37; refine hkp.mono ?_; clear hkp; rintro e w12 ⟨rfl, hb12⟩; have HB12 := hide hb12; clear hb12)
              have hown12 := own_to HO.out.1 HB12.out
              have HO12 := hide (And.intro hown12 (bthen HO.out.2 HB12.out))
              have hww12 := HO12.out.2.size
              have hb18' : b18 < w12.heap.size := Nat.lt_of_lt_of_le hb18 HB12.out.size
              obtain ⟨y0, y1, y2, y3, y4, y5, y6⟩ := HCy.out w12 HB12.out
              have gA := (Blk.new w12 49 (cR ⟨yp, yn, yt, yo, yw, yk, yx⟩)).slr (k := 7) (n := 1) rfl
              have hown7 := hown12.alloc (.cells #[.int .i64 yp, .int .i64 yn, .int .i64 yt, .int .i64 yo, .int .i64 yw, .int .i64 yk, .string yx] 49)
              clear hown12
              go_wp2_with (at_builtin; refine wpList_append_sl (size := 7) rfl _ _ 23 rfl w11.heap.size 49 j0 zV 64 Tryz.underlying23 hj0 hz0 hz1 hz2 rfl (by decide) (.slice Av mo.length cv) mo.length (mo.flatMap cR) rfl hown7 1 1 (cR ⟨yp, yn, yt, yo, yw, yk, yx⟩) rfl gA (Below.refl _ _) (fun u hu => oneR [⟨yp, yn, yt, yo, yw, yk, yx⟩] u (by simpa using hu)) (by unfold maxLen; omega) (by omega) (by simp; omega) ?_; intro v8 w8 hown8 hgrow8 hor8; have HN8 := hide (And.intro hown8 hgrow8); clear hown8 hgrow8 hor8 hown7 gA)
              obtain ⟨hown8, hgrow8⟩ := HN8.out
              have hw1 : wrap64 ((k : Int) + 1) = ((k + 1 : Nat) : Int) := (Go.IntWalk.wrap64_in _ (by omega)).trans rfl
              try rw [hw1]
              clear hw1
              refine ⟨⟨k + 1, hlt, rfl, ?_, ?_⟩, ?_⟩
              · rw [HF1.out, List.length_append, List.flatMap_append]
                simpa using hown8
              · exact bgrown (balloc HO12.out.2 _) hgrow8 (own_ge HO12.out.1)
              · show nf - ((k : Int) + 1).toNat < nf - ((k : Nat) : Int).toNat
                omega
          · obtain rfl : k = nf := by omega
            have hkt : F.take k = F := by rw [← HNf.out.1, List.take_length]
            rw [hkt] at hv3
            have HA : Hid (∀ W, Below wy.heap.size wy W → (SlR W W.heap.size 7 Av ((F.filter (fun y => !inK bef y)).length) ((F.filter (fun y => !inK bef y)).flatMap cR) ∧ SlR W W.heap.size 7 (some ⟨b16, o16, none⟩) nb1 ((bef ++ [(⟨0, xn, xt, qp, qn, 7, tx⟩ : Rc)]).flatMap cR) ∧ SlR W W.heap.size 7 A20 ng (G.flatMap cR)) ∧ Blk W w10.heap.size 49 [.int .i64 0, .int .i64 xn, .int .i64 xt, .int .i64 qp, .int .i64 qn, .int .i64 7, .string tx] ∧ Below w.heap.size w W) := hide (fun W h => ⟨⟨hv3.to' h, (HR.out W (bthen hb h)).1.2.1, (HR.out W (bthen hb h)).1.2.2.2⟩, (HR.out W (bthen hb h)).2⟩)
            have hlenF : (F.filter (fun y => !inK bef y)).length ≤ k := by have := List.length_filter_le (fun y => !inK bef y) F; have := HNf.out.1; omega
            rw [hkt]
            clear hkt hv3 hown hb g14 g16 g18 g20 gX gW
            obtain ⟨Aw, rfl⟩ : ∃ Aw, Aw = Av := ⟨_, rfl⟩
            obtain ⟨cw, rfl⟩ : ∃ cw, cw = cv := ⟨_, rfl⟩
            obtain ⟨wz, hwz⟩ : ∃ wz, wz = wy := ⟨_, rfl⟩
            rw [← hwz] at HA ⊢
            clear hwz
            have hwz22 : w10.heap.size < wz.heap.size := (HA.out wz (Below.refl _ _)).2.1.lt
            go_wp2_with fail
            go_loopw [24, 26, 27] (fun v h i W => ∃ q s : Nat, q ≤ ng ∧ i = .int .i64 q ∧ h = .int .i64 s ∧ s ≤ q ∧ Hid ((G.take q).countP (inK (bef ++ [⟨0, xn, xt, qp, qn, 7, tx⟩])) = s) ∧ W.ownsRow wz.heap.size 49 7 v ((G.take q).filter (fun y => !inK (bef ++ [⟨0, xn, xt, qp, qn, 7, tx⟩]) y)).length (((G.take q).filter (fun y => !inK (bef ++ [⟨0, xn, xt, qp, qn, 7, tx⟩]) y)).flatMap cR) ∧ Below wz.heap.size wz W) (fun _ _ i _ => ng - (intOf i).toNat)
            case atStart => exact ⟨0, 0, Nat.zero_le _, rfl, rfl, Nat.le_refl _, hide rfl, (by exact World.ownsRow_nil _ _ _ _), Below.refl _ _⟩
            case round =>
              obtain ⟨q, s, hq, rfl, rfl, hsq, hcnt, hown, hb⟩ := hrel
              obtain ⟨wy, rfl⟩ : ∃ wy, wy = wr := ⟨_, rfl⟩
              obtain ⟨⟨g14, g16, g20⟩, gX, gW⟩ := HA.out wy hb
              obtain ⟨Av, cv, rfl, hv1, hv2, hv3⟩ := SlR.of_own hown
              by_cases hlt : q < ng
              · have hqi : (q : Int) < (ng : Int) := by omega
                have hkl : q < G.length := by have := HNf.out.2; omega
                obtain ⟨A', hA', hcut⟩ := cut_one g20 hk20 hkl
                have hFS := fil_snoc (fun y => !inK (bef ++ [(⟨0, xn, xt, qp, qn, 7, tx⟩ : Rc)]) y) G hkl
                have hCS := cnt_snoc (inK (bef ++ [(⟨0, xn, xt, qp, qn, 7, tx⟩ : Rc)])) G hkl
                have hlen := fil_len (fun y => !inK (bef ++ [(⟨0, xn, xt, qp, qn, 7, tx⟩ : Rc)]) y) G q
                have hlst := HCs.out.2.2 _ (List.getElem_mem hkl)
                obtain ⟨b20, o20, rfl, hb20⟩ := g20.some_of (by omega)
                have HCy : Hid (∀ W, Below wy.heap.size wy W → _) := hide (fun W hW => ((HA.out W (bthen hb hW)).1.2.2.cellsR (Below.refl _ _) hkl).2)
                generalize G[q]'hkl = y at *
                obtain ⟨yp, yn, yt, yo, yw, yk, yx⟩ := y
                dsimp only at HCy
                obtain ⟨b, hbK⟩ : ∃ b, inK (bef ++ [(⟨0, xn, xt, qp, qn, 7, tx⟩ : Rc)]) ⟨yp, yn, yt, yo, yw, yk, yx⟩ = b := ⟨_, rfl⟩
                have hkp : Calls Tryz.prog 37 #[.slice (some ⟨b16, o16, none⟩) nb1 c16, .slice A' 1 (c20 - q)] wy fun e w' => e = .returned (.bool b) ∧ Below wy.heap.size wy w' := by
                  have := c_lkeeps (some ⟨b16, o16, none⟩) nb1 c16 (bef ++ [(⟨0, xn, xt, qp, qn, 7, tx⟩ : Rc)]) A' 1 (c20 - q) [(⟨yp, yn, yt, yo, yw, yk, yx⟩ : Rc)] wy (by omega) (by omega) g16 hA'
                  rw [show kpB (bef ++ [(⟨0, xn, xt, qp, qn, 7, tx⟩ : Rc)]) [(⟨yp, yn, yt, yo, yw, yk, yx⟩ : Rc)] = b from hbK] at this
                  exact this
                rw [hbK] at hFS hCS hlst
                have HFS := hide (And.intro hFS hCS)
                have HO := hide (And.intro hown hb)
                have hww := hb.size
                clear hFS hCS hown hb hv3 g14 g16 g20 gX gW hbK hA'
                generalize (G.take q).filter (fun y => !inK (bef ++ [(⟨0, xn, xt, qp, qn, 7, tx⟩ : Rc)]) y) = mo at *
                cases b with
                | true =>
                  have hyx := hlst rfl
                  simp only [Rc.mk.injEq] at hyx
                  obtain ⟨f0, f1, f2, f3, f4, f5, f6⟩ := hyx
                  subst f0 f5
                  have f1' := f1
                  clear hlst
                  go_upto_region 32 with (go_at_call 37; refine hkp.mono ?_; clear hkp; rintro e w12 ⟨rfl, hb12⟩; have HB12 := hide hb12; clear hb12)
                  have y0 := fun x : BW w12 => (HCy.out x.val (bthen HB12.out x.ok)).1
                  have y1 := fun x : BW w12 => (HCy.out x.val (bthen HB12.out x.ok)).2.1
                  have y2 := fun x : BW w12 => (HCy.out x.val (bthen HB12.out x.ok)).2.2.1
                  have y3 := fun x : BW w12 => (HCy.out x.val (bthen HB12.out x.ok)).2.2.2.1
                  have y4 := fun x : BW w12 => (HCy.out x.val (bthen HB12.out x.ok)).2.2.2.2.1
                  have y5 := fun x : BW w12 => (HCy.out x.val (bthen HB12.out x.ok)).2.2.2.2.2.1
                  have y6 := fun x : BW w12 => (HCy.out x.val (bthen HB12.out x.ok)).2.2.2.2.2.2
                  have gX12 := fun x : BW w12 => (HA.out x.val (bthen HO.out.2 (bthen HB12.out x.ok))).2.1.all7.1
                  have z0 := fun x : BW w12 => (gX12 x).1
                  have z1 := fun x : BW w12 => (gX12 x).2.1
                  have z2 := fun x : BW w12 => (gX12 x).2.2.1
                  have z3 := fun x : BW w12 => (gX12 x).2.2.2.1
                  have z4 := fun x : BW w12 => (gX12 x).2.2.2.2.1
                  have z5 := fun x : BW w12 => (gX12 x).2.2.2.2.2.1
                  have z6 := fun x : BW w12 => (gX12 x).2.2.2.2.2.2
                  have hq0 : ∀ w, (binOp .eql 49 (.agg #[.int .i64 0, .int .i64 yn, .int .i64 yt, .int .i64 yo, .int .i64 yw, .int .i64 7, .string yx]) (.agg #[.int .i64 0, .int .i64 xn, .int .i64 xt, .int .i64 qp, .int .i64 qn, .int .i64 7, .string tx])).run Tryz.prog w = .ok (.bool true) w := fun w => by
                    rw [f1, f2, f3, f4, f6]
                    exact (eqlRc w ⟨0, xn, xt, qp, qn, 7, tx⟩ ⟨0, xn, xt, qp, qn, 7, tx⟩).trans (by rw [decide_eq_true rfl])
                  have HFF := hide (And.intro f1 (And.intro f2 (And.intro f3 (And.intro f4 f6))))
                  clear gX12 f1 f2 f3 f4 f6 f1'
                  refine wp_region_bw w12 (Below.refl _ _) (by kernel_rfl) (by kernel_rfl) ?_
                  repeat (go_big_quiet_step (fail))
                  refine wpQuiet_nil ?_
                  intro w13 hb13
                  clear y0 y1 y2 y3 y4 y5 y6 z0 z1 z2 z3 z4 z5 z6 hq0
                  go_wp2_with fail
                  refine ⟨⟨q + 1, s + 1, hlt, rfl, rfl, by omega, hide ?_, ?_, bthen HO.out.2 (bthen HB12.out hb13)⟩, ?_⟩
                  · rw [HFS.out.2, hcnt.out]; rfl
                  · have := own_to (own_to HO.out.1 HB12.out) hb13
                    rw [HFS.out.1]
                    simpa using this
                  · show ng - ((q : Int) + 1).toNat < ng - ((q : Nat) : Int).toNat
                    omega
                | false =>
                  clear hlst
                  go_upto_region 31 with (go_at_call 37; refine hkp.mono ?_; clear hkp; rintro e w12 ⟨rfl, hb12⟩; have HB12 := hide hb12; clear hb12)
                  have hown12 := own_to HO.out.1 HB12.out
                  have HO12 := hide (And.intro hown12 (bthen HO.out.2 HB12.out))
                  have hww12 := HO12.out.2.size
                  have hb20' : b20 < w12.heap.size := Nat.lt_of_lt_of_le hb20 HB12.out.size
                  obtain ⟨y0, y1, y2, y3, y4, y5, y6⟩ := HCy.out w12 HB12.out
                  have gA := (Blk.new w12 49 (cR ⟨yp, yn, yt, yo, yw, yk, yx⟩)).slr (k := 7) (n := 1) rfl
                  have hown7 := hown12.alloc (.cells #[.int .i64 yp, .int .i64 yn, .int .i64 yt, .int .i64 yo, .int .i64 yw, .int .i64 yk, .string yx] 49)
                  clear hown12
                  go_wp2_with (at_builtin; refine wpList_append_sl (size := 7) rfl _ _ 23 rfl wz.heap.size 49 j0 zV 64 Tryz.underlying23 hj0 hz0 hz1 hz2 rfl (by decide) (.slice Av mo.length cv) mo.length (mo.flatMap cR) rfl hown7 1 1 (cR ⟨yp, yn, yt, yo, yw, yk, yx⟩) rfl gA (Below.refl _ _) (fun u hu => oneR [⟨yp, yn, yt, yo, yw, yk, yx⟩] u (by simpa using hu)) (by unfold maxLen; omega) (by omega) (by simp; omega) ?_; intro v8 w8 hown8 hgrow8 hor8; have HN8 := hide (And.intro hown8 hgrow8); clear hown8 hgrow8 hor8 hown7 gA)
                  obtain ⟨hown8, hgrow8⟩ := HN8.out
                  have hw1 : wrap64 ((q : Int) + 1) = ((q + 1 : Nat) : Int) := (Go.IntWalk.wrap64_in _ (by omega)).trans rfl
                  try rw [hw1]
                  clear hw1
                  refine ⟨⟨q + 1, s, hlt, rfl, rfl, by omega, hide ?_, ?_, ?_⟩, ?_⟩
                  · rw [HFS.out.2, hcnt.out]; rfl
                  · rw [HFS.out.1, List.length_append, List.flatMap_append]
                    simpa using hown8
                  · exact bgrown (balloc HO12.out.2 _) hgrow8 (own_ge HO12.out.1)
                  · show ng - ((q : Int) + 1).toNat < ng - ((q : Nat) : Int).toNat
                    omega
              · obtain rfl : q = ng := by omega
                have hkt : G.take q = G := by rw [← HNf.out.2, List.take_length]
                rw [hkt] at hv3 hcnt
                have hs1 : s = if tx.size = 0 then 0 else 1 := hcnt.out.symm.trans HCs.out.2.1
                have hsame := HCs.out.1
                have hlenG : (G.filter (fun y => !inK (bef ++ [(⟨0, xn, xt, qp, qn, 7, tx⟩ : Rc)]) y)).length ≤ q := by have := List.length_filter_le (fun y => !inK (bef ++ [(⟨0, xn, xt, qp, qn, 7, tx⟩ : Rc)]) y) G; have := HNf.out.2; omega
                have hq63 : (G.filter (fun y => !inK (bef ++ [(⟨0, xn, xt, qp, qn, 7, tx⟩ : Rc)]) y)).length ≤ 9223372036854775807 := by omega
                rw [hkt, ← hsame]
                rw [← hsame] at hv3 hq63
                have hAv := g14
                have hsr : Calls Tryz.prog 15 #[.slice Aw (F.filter (fun y => !inK bef y)).length cw, .slice Av (F.filter (fun y => !inK bef y)).length cv] wy fun e w' => e = .returned (.bool true) ∧ Below wy.heap.size wy w' := by
                  have := c_rSameRecords Aw _ cw (F.filter (fun y => !inK bef y)) Av _ cv (F.filter (fun y => !inK bef y)) wy hq63 hq63 g14 hv3
                  rw [decide_eq_true rfl] at this
                  exact this
                have HW := hide gW
                have hE := isE tx
                clear hkt hv3 hown hb g14 g16 g20 gX gW hcnt hsame hAv
                by_cases hz : tx.size = 0
                · rw [if_pos hz] at hs1
                  rw [decide_eq_true hz] at hE
                  subst hs1
                  clear hz
                  go_wp2_with (go_at_call 15; refine hsr.mono ?_; clear hsr; rintro e w13 ⟨rfl, hb13⟩; have HB13 := hide hb13; clear hb13)
                  go_ret
                  exact ⟨rfl, bthen HW.out HB13.out⟩
                · rw [if_neg hz] at hs1
                  rw [decide_eq_false hz] at hE
                  subst hs1
                  clear hz
                  go_wp2_with (go_at_call 15; refine hsr.mono ?_; clear hsr; rintro e w13 ⟨rfl, hb13⟩; have HB13 := hide hb13; clear hb13)
                  go_ret
                  exact ⟨rfl, bthen HW.out HB13.out⟩
end Go.Proofs.YtcfbgelhggapjaaGreatDoor
/- ReplicaCorrected returns true for every input, and each argument reads afterwards as it read before. No condition but the row's own: the variable holds what the program's text lays. -/
namespace Go.Proofs.YtcfbgelhggapjaaGreatDoor
open Go.ChangeShapes Go.WideShapes Go.ChangeAt Go.RowKit
theorem corrected_reads (os : Os) {H : Type} (enc : TypeId × Value → H) : ∃ places, DataW.whole enc Tryz.prog ((laidWorld os).forCall (fun _ _ => 0) ⟨#[], #[.slice none 0 0, .int .i64 0, .int .i64 0, .string ⟨#[]⟩], []⟩).memory Tryz.f6.params.toList Rows.replicaCorrectedSpec.vars false ((#[.slice none 0 0, .int .i64 0, .int .i64 0, .string ⟨#[]⟩] : Array Value)).toList 8 = some ([.nil, .lit (.int .i64 0), .lit (.int .i64 0), .lit (.string [])], [], places) :=
  ⟨[], by kernel_rfl⟩
set_option maxHeartbeats 1600000 in
set_option maxRecDepth 100000 in
theorem corrected_contract (H : Type) (enc : TypeId × Value → H) (W : World) (base : Nat) (args : Array Value) (ds gs : List (DataW H)) (before : List MemPlace)
    (hval0 : ∀ (j : Nat) t v, Tryz.f6.params[j]? = some t → args[j]? = some v → Value.okWide Tryz.prog W .any base t v)
    (hW : DataW.Whole enc Tryz.prog Tryz.f6.params.toList Rows.replicaCorrectedSpec.vars false W args.toList ds gs before) (hL : laidMetH Tryz.prog Rows.replicaCorrectedRow.laid W) :
    Calls Tryz.prog 6 args W fun e W' => ∃ v, e = .returned v ∧ Rows.replicaCorrectedSpec.post enc Tryz.prog Tryz.f6 false true false false W args v W' := by
  have hR : RL W := rl_of hL
  have hval : ∀ (j : Nat) t v, Tryz.f6.params[j]? = some t → args[j]? = some v → Value.okWide Tryz.prog W .any base t v := hval0
  have hW' := hW
  obtain ⟨p, q, hA0, hV, rfl, hfz, hnd⟩ := hW
  have hA : DataW.TrodAll enc Tryz.prog W 0 (fun _ => true) true Tryz.f6.params.toList args.toList ds p := hA0
  have hA1 := hA
  rw [Tryz.params6] at hA hval
  obtain ⟨v0, v1, v2, v3, d0, d1, d2, d3, p0, p1, p2, p3, rfl, rfl, rfl, h0, h1, h2, h3⟩ := trodAll_four hA
  obtain ⟨rfl, rfl⟩ := trodVars_none hV
  obtain ⟨A0, x0, c0, rfl, hn0, hc0, hw0, hr0⟩ := open_sl4 (hval 0 22 v0 rfl rfl) h0
  obtain ⟨n1, rfl, rfl, rfl, w1⟩ := open_int Tryz.underlying3 (hval 1 3 v1 rfl rfl) h1
  have w1 := wf_of w1
  obtain ⟨n2, rfl, rfl, rfl, w2⟩ := open_int Tryz.underlying3 (hval 2 3 v2 rfl rfl) h2
  have w2 := wf_of w2
  obtain ⟨s3, rfl, rfl, rfl, w3⟩ := Go.ChangeMaps.open_string Tryz.underlying9 (hval 3 9 v3 rfl rfl) h3
  refine (c_Corrected A0 x0.length c0 x0 n1 n2 s3 W hR (by omega) hw0 rfl hr0 w1.1 w1.2 w2.1 w2.2).mono fun e W' ⟨he, hB⟩ => ?_
  subst he
  refine ⟨_, rfl, _, _, _, [], _, [], hW', ?_, below_all hB ?_ hA1, rfl, hB.frame _, fun h => by cases h⟩
  · exact trodAll_mk1 (shut_bool Tryz.underlying4 true)
  · rw [Tryz.params6]
    intro t ht
    simp only [List.mem_cons, List.not_mem_nil, or_false] at ht
    rcases ht with rfl | rfl | rfl | rfl <;> exact ⟨by kernel_rfl, of_decide_eq_true (by kernel_rfl)⟩
set_option maxRecDepth 100000 in
theorem corrected_lifted (os : Os) (started : os.Started) (H : Type) (enc : TypeId × Value → H) (F : Stop.Interp) :
    ReturnsInHanded {} Tryz.checked os 6 .any ((OpenSpec.ofChange Rows.replicaCorrectedSpec).preRow enc Tryz.prog Tryz.f6 Rows.replicaCorrectedRow.domain false Rows.replicaCorrectedRow.laid) (((OpenSpec.ofChange Rows.replicaCorrectedSpec).at F).post enc Tryz.prog Tryz.f6 false true false false) := by
  obtain ⟨places, hx⟩ := corrected_reads os enc
  refine returnsInHanded_of_row (C := Tryz.checked) (s := OpenSpec.ofChange Rows.replicaCorrectedSpec) Tryz.own started (by kernel_rfl) Tryz.func6
    (witness_row_at (enc := enc) (C := Tryz.checked) false (laidWorld os) #[.slice none 0 0, .int .i64 0, .int .i64 0, .string ⟨#[]⟩] rfl (by kernel_rfl) (by kernel_rfl) (by kernel_rfl)
      (OpenSpec.preRow_of_cond 8 hx (by kernel_rfl) (fun k hk => by cases hk) (by kernel_rfl) (laid_met os _))) ?_
  intro W base args ds gs before hval hW _ _ _ hL _ _
  exact corrected_contract H enc W base args ds gs before hval hW hL
/-- ReplicaCorrected: whatever the input, true; the input reads as it did. -/
theorem corrected_said : Rows.ReplicaCorrectedSaid :=
  OpenClaim.holds_of_cond 6 Tryz.f6 rfl rfl rfl rfl rfl rfl rfl ⟨rfl, rfl, rfl, rfl, rfl⟩ rfl rfl rfl rfl rfl (by kernel_rfl) Tryz.func6 (by kernel_rfl)
    (of_decide_eq_true (by kernel_rfl)) (by unfold Func.isWrapper; first | (rw [if_pos (by decide +kernel)]; kernel_rfl) | (rw [if_neg (by decide +kernel)]; exact ⟨rfl, rfl⟩))
    (fun os started H enc _ F => by rw [OpenClaim.pre_eq_preRow]; exact corrected_lifted os started H enc F)
/-- no parameter wants a stand-in; the program's own looks are off -/
theorem corrected_plain (f : FuncId) (fn : Func) (hf : Tryz.pinned.checked.prog.funcNamed "slatewall/slatewalllaw35.ReplicaCorrected" = some f) (hfn : Tryz.pinned.checked.prog.funcs[f]? = some fn) :
    false = Tryz.pinned.checked.prog.looks [] ∧ ∀ (j : Nat) t, fn.params[j]? = some t → Tryz.pinned.checked.prog.wantsStandIn t = false := by
  obtain rfl : f = 6 := Option.some.inj ((show Tryz.prog.funcNamed "slatewall/slatewalllaw35.ReplicaCorrected" = some 6 by kernel_rfl).symm.trans hf) |>.symm
  obtain rfl : fn = Tryz.f6 := (Option.some.inj (Tryz.func6.symm.trans hfn)).symm
  refine ⟨by kernel_rfl, fun j t ht => ?_⟩
  rw [Tryz.params6] at ht
  have hm : t ∈ [22, 3, 3, 9] := by simpa using Array.mem_of_getElem? ht
  have hall : ([22, 3, 3, 9].all fun u => !Tryz.prog.wantsStandIn u) = true := by kernel_rfl
  exact (show Tryz.prog.wantsStandIn t = false by simpa using List.all_eq_true.1 hall t hm)
/-- THE CARD of ReplicaCorrected. -/
theorem corrected_holds : Rows.ReplicaCorrectedCardSaid :=
  Claim7.holds_tied_plain_at .later [] _ _ _ _ corrected_said (fun _ h => by cases h) (by kernel_rfl) (fun _ h => by cases h) replicaCorrected_row_tie rfl ⟨rfl, rfl⟩ (by kernel_rfl) rfl corrected_plain (by kernel_rfl)
end Go.Proofs.YtcfbgelhggapjaaGreatDoor
#print axioms Go.Proofs.YtcfbgelhggapjaaGreatDoor.corrected_holds
