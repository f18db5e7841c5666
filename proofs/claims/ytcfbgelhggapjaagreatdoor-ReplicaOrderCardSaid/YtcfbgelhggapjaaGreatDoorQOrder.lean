/- Replica: the law of order. -/
import Derived.Test.YtcfbgelhggapjaaGreatDoorQ21
import Derived.ChangeMaps5
namespace Go.Proofs.YtcfbgelhggapjaaGreatDoor
open Go.RowKit Go.Shelf
/-- a replica that lies in two cells -/
structure Rp (W : World) (b i j : Nat) (p : Int) (A : Option Addr) (n c : Nat) (l : List Rc) : Prop where
  c0 : W.cell? ⟨b, i, none⟩ = some (.int .i64 p)
  c1 : W.cell? ⟨b, j, none⟩ = some (.slice A n c)
  lt : b < W.heap.size
  slr : SlR W W.heap.size 7 A n (l.flatMap cR)
theorem Bx.rp {W : World} {b : Nat} {p : Int} {A : Option Addr} {n c : Nat} {l : List Rc} (h : Bx W b p A n c l) : Rp W b 0 1 p A n c l := ⟨h.cells.1, h.cells.2.1, h.cells.2.2, h.slr⟩
theorem i64_quo (x : Int) (h1 : -9223372036854775808 ≤ x) (h2 : x ≤ 9223372036854775807) : -9223372036854775808 ≤ x.tdiv 3 ∧ x.tdiv 3 ≤ 9223372036854775807 := by
  rcases Int.le_total 0 x with h | h
  · rw [Int.tdiv_eq_ediv_of_nonneg h]; omega
  · obtain ⟨y, rfl⟩ : ∃ y, x = -y := ⟨-x, by omega⟩
    rw [Int.neg_tdiv, Int.tdiv_eq_ediv_of_nonneg (by omega)]; omega
set_option linter.unusedSimpArgs false in
set_option maxRecDepth 100000 in
set_option maxHeartbeats 16000000 in
theorem c_Order (A : Option Addr) (N c : Nat) (xs : List I4) (D : Option Addr) (M d : Nat) (os : List Int) (w : World) (hR : RL w) (hN : N ≤ 9223372036854775807) (hx : ∀ x ∈ xs, ok4 x) (hl : xs.length = N) (hr : SlR w w.heap.size 4 A xs.length (xs.flatMap c4))
    (hM : M ≤ 9223372036854775807) (hos : ∀ x ∈ os, -9223372036854775808 ≤ x ∧ x ≤ 9223372036854775807) (hol : os.length = M) (hor : SlR w w.heap.size 1 D M (os.map (Value.int .i64))) :
    Calls Tryz.prog 4 #[.slice A N c, .slice D M d] w fun e w' => e = .returned (.bool true) ∧ Below w.heap.size w w' := by
  have hw0 := hR.lt
  have HRw := hide hR
  have HX := hide (And.intro hx (And.intro hl hr))
  have HD := hide (And.intro hos (And.intro hol hor))
  clear hx hl hr hos hol hor
  go_enter Tryz.func4, Tryz.ntmps4
  go_upto_region 2 with (go_at_call 10; refine (c_lsane w HRw.out).mono ?_; rintro e w1 ⟨rfl, hb1⟩; have HB1 := hide hb1; clear hb1)
  go_upto_region 5 with (go_at_call 11; refine (c_Made A N c xs w1 hN HX.out.1 HX.out.2.1 (HX.out.2.2.to' HB1.out)).mono ?_; rintro e w2 ⟨rfl, hT, hb2⟩; have HT := hide hT; have HB2 := hide (And.intro hb2 (And.intro (bthen HB1.out hb2) (HRw.out.to' (bthen HB1.out hb2)))); clear hb2 hT)
  obtain ⟨ab, bc, lf, hO⟩ := ord_mad xs
  have HT2 := HT
  obtain ⟨B, hB⟩ : ∃ B, madL xs = B := ⟨_, rfl⟩
  rw [hB] at hO HT
  obtain ⟨n0, hn0⟩ : ∃ n, (B[0]!).length = n := ⟨_, rfl⟩
  obtain ⟨n1, hn1⟩ : ∃ n, (B[1]!).length = n := ⟨_, rfl⟩
  obtain ⟨n2, hn2⟩ : ∃ n, (B[2]!).length = n := ⟨_, rfl⟩
  obtain ⟨A0, c0, k0, k0', h0⟩ := HT.out.bx (k := 0) (by omega) rfl hn0
  obtain ⟨A1, c1, k1, k1', h1⟩ := HT.out.bx (k := 1) (by omega) rfl hn1
  obtain ⟨A2, c2, k2, k2', h2⟩ := HT.out.bx (k := 2) (by omega) rfl hn2
  obtain ⟨nab, hnab⟩ : ∃ n, ab.length = n := ⟨_, rfl⟩
  obtain ⟨nbc, hnbc⟩ : ∃ n, bc.length = n := ⟨_, rfl⟩
  obtain ⟨nlf, hnlf⟩ : ∃ n, lf.length = n := ⟨_, rfl⟩
  have b0 : n0 ≤ 24 := by rw [← hn0]; exact hO.fB 0 (by omega)
  have b1 : n1 ≤ 24 := by rw [← hn1]; exact hO.fB 1 (by omega)
  have b2 : n2 ≤ 24 := by rw [← hn2]; exact hO.fB 2 (by omega)
  have bab : nab ≤ 24 := by rw [← hnab]; exact hO.fab
  have bbc : nbc ≤ 24 := by rw [← hnbc]; exact hO.fbc
  have blf : nlf ≤ 24 := by rw [← hnlf]; exact hO.few
  have HO := hide hO
  have HN := hide (And.intro hnab (And.intro hnbc hnlf))
  have HF2 : Hid (∀ W, Below w2.heap.size w2 W → Rp W w1.heap.size 0 1 0 A0 n0 c0 B[0]! ∧ Rp W w1.heap.size 2 3 1 A1 n1 c1 B[1]! ∧ Rp W w1.heap.size 4 5 2 A2 n2 c2 B[2]! ∧ RL W ∧ Below w.heap.size w W ∧ Below w2.heap.size w2 W) := hide (fun W h => ⟨⟨(h0 W h).1, (h0 W h).2.1, (h0 W h).2.2.1, (h0 W h).2.2.2⟩, ⟨(h1 W h).1, (h1 W h).2.1, (h1 W h).2.2.1, (h1 W h).2.2.2⟩, ⟨(h2 W h).1, (h2 W h).2.1, (h2 W h).2.2.1, (h2 W h).2.2.2⟩, HB2.out.2.2.to' h, bthen HB2.out.2.1 h, h⟩)
  obtain ⟨es0, hes0⟩ := now_mad HT.out
  have HE := hide hes0
  clear h0 h1 h2 hn0 hn1 hn2 hnab hnbc hnlf hO hes0
  have hga : w1.heap.size < w2.heap.size := (HF2.out w2 (Below.refl _ _)).1.lt
  have hgb : w1.heap.size < w2.heap.size := (HF2.out w2 (Below.refl _ _)).2.1.lt
  have HS : Hid (∀ W, Below w2.heap.size w2 W → W.cell? ⟨w1.heap.size, 0, none⟩ = some (.int .i64 0) ∧ W.cell? ⟨w1.heap.size, 1, none⟩ = some (.slice A0 n0 c0) ∧ W.cell? ⟨w1.heap.size, 2, none⟩ = some (.int .i64 1) ∧ W.cell? ⟨w1.heap.size, 3, none⟩ = some (.slice A1 n1 c1) ∧ Below w2.heap.size w2 W) := hide (fun W h => ⟨(HF2.out W h).1.c0, (HF2.out W h).1.c1, (HF2.out W h).2.1.c0, (HF2.out W h).2.1.c1, h⟩)
  have HGv : Hid (∀ W, Below w2.heap.size w2 W → Calls Tryz.prog 26 #[.agg #[.int .i64 0, .slice A0 n0 c0], .agg #[.int .i64 1, .slice A1 n1 c1]] W (RepPost 0 (some ab) W)) := hide (fun W h => by
    have := c_pMerge 0 A0 n0 c0 B[0]! 1 A1 n1 c1 B[1]! W (HF2.out W h).2.2.2.1 (by omega) (by omega) (HF2.out W h).1.slr (HF2.out W h).2.1.slr
    rw [HO.out.e1] at this
    exact this)
  go_cut [7, 8] from 37 to 46 (fun v u wx => BxCut 0 ab nab w2 v u wx)
  case first =>
    go_region_held3 (fun W => W.cell? ⟨w1.heap.size, 0, none⟩ = some (.int .i64 0) ∧ W.cell? ⟨w1.heap.size, 1, none⟩ = some (.slice A0 n0 c0) ∧ W.cell? ⟨w1.heap.size, 2, none⟩ = some (.int .i64 1) ∧ W.cell? ⟨w1.heap.size, 3, none⟩ = some (.slice A1 n1 c1) ∧ Below w2.heap.size w2 W)
      (first | exact HS.out _ (by assumption) | exact HS.out _ (bdrew (Below.refl _ _)) | exact HS.out _ h8 | exact HS.out _ (balloc h8 _) | exact HS.out _ (bset (bset h8 (Nat.le_refl _) _) (Nat.le_refl _) _) | (go_split_ands; first | exact HS.out _ (by assumption) | exact HS.out _ (bthen (by assumption) (by assumption)) | exact HS.out _ (balloc (by assumption) _) | exact HS.out _ (bdrew (balloc (Below.refl _ _) _)) | exact HS.out _ (balloc (bthen (by assumption) (by assumption)) _)))
      ((go_split_ands; go_at_call 26; refine (HGv.out _ (by assumption)).mono ?_; rintro e w8 hp; obtain ⟨hb8, A8, c8, rfl, hk1, hk2, hsn⟩ := RepPost.some' HN.out.1 hp; clear hp; have h8 : Below w2.heap.size w2 w8 := bthen (by assumption) hb8; (try (obtain ⟨q0, q1, q2, q3⟩ := (((Blk.new w2 25 [.int .i64 0, .slice none 0 0]).drew).below hb8 (by simp)).all2; have q4 : w2.heap.size < w8.heap.size := (((Blk.new w2 25 [.int .i64 0, .slice none 0 0]).drew).below hb8 (by simp)).lt))))
    all_goals
      go_wp2_with fail
      go_meet
      first | exact BxCut.late h8 hsn hk1 hk2 | exact BxCut.early hb8 (by simpa using hsn) hk1 hk2
  case rest =>
    obtain ⟨w3, rfl⟩ : ∃ w3, w3 = wc := ⟨_, rfl⟩
    obtain ⟨b7, A7, c7, rfl, rfl, hle2, hBx, hbx⟩ := hcut
    clear HS HGv hga hgb
    have HF3 : Hid (∀ W, Below w3.heap.size w3 W → Rp W b7 0 1 0 A7 nab c7 ab ∧ Rp W w1.heap.size 0 1 0 A0 n0 c0 B[0]! ∧ Rp W w1.heap.size 2 3 1 A1 n1 c1 B[1]! ∧ Rp W w1.heap.size 4 5 2 A2 n2 c2 B[2]! ∧ RL W ∧ Below w.heap.size w W ∧ Below w2.heap.size w2 W) := hide (fun W h => ⟨(hBx.to h).rp, HF2.out W (bthen hbx h)⟩)
    have HC3 := hide (And.intro hBx.hnc hBx.hc)
    clear hBx hbx
    have hga : w1.heap.size < w3.heap.size := (HF3.out w3 (Below.refl _ _)).2.2.1.lt
    have hgb : w1.heap.size < w3.heap.size := (HF3.out w3 (Below.refl _ _)).2.1.lt
    have HS : Hid (∀ W, Below w3.heap.size w3 W → W.cell? ⟨w1.heap.size, 2, none⟩ = some (.int .i64 1) ∧ W.cell? ⟨w1.heap.size, 3, none⟩ = some (.slice A1 n1 c1) ∧ W.cell? ⟨w1.heap.size, 0, none⟩ = some (.int .i64 0) ∧ W.cell? ⟨w1.heap.size, 1, none⟩ = some (.slice A0 n0 c0) ∧ Below w3.heap.size w3 W) := hide (fun W h => ⟨(HF3.out W h).2.2.1.c0, (HF3.out W h).2.2.1.c1, (HF3.out W h).2.1.c0, (HF3.out W h).2.1.c1, h⟩)
    have HGv : Hid (∀ W, Below w3.heap.size w3 W → Calls Tryz.prog 26 #[.agg #[.int .i64 1, .slice A1 n1 c1], .agg #[.int .i64 0, .slice A0 n0 c0]] W (RepPost 1 (some ab) W)) := hide (fun W h => by
      have := c_pMerge 1 A1 n1 c1 B[1]! 0 A0 n0 c0 B[0]! W (HF3.out W h).2.2.2.2.1 (by omega) (by omega) (HF3.out W h).2.2.1.slr (HF3.out W h).2.1.slr
      rw [HO.out.e2] at this
      exact this)
    go_wp2_with fail
    go_cut [9, 10] from 47 to 56 (fun v u wx => BxCut 1 ab nab w3 v u wx)
    case first =>
      go_region_held3 (fun W => W.cell? ⟨w1.heap.size, 2, none⟩ = some (.int .i64 1) ∧ W.cell? ⟨w1.heap.size, 3, none⟩ = some (.slice A1 n1 c1) ∧ W.cell? ⟨w1.heap.size, 0, none⟩ = some (.int .i64 0) ∧ W.cell? ⟨w1.heap.size, 1, none⟩ = some (.slice A0 n0 c0) ∧ Below w3.heap.size w3 W)
        (first | exact HS.out _ (by assumption) | exact HS.out _ (bdrew (Below.refl _ _)) | exact HS.out _ h8 | exact HS.out _ (balloc h8 _) | exact HS.out _ (bset (bset h8 (Nat.le_refl _) _) (Nat.le_refl _) _) | (go_split_ands; first | exact HS.out _ (by assumption) | exact HS.out _ (bthen (by assumption) (by assumption)) | exact HS.out _ (balloc (by assumption) _) | exact HS.out _ (bdrew (balloc (Below.refl _ _) _)) | exact HS.out _ (balloc (bthen (by assumption) (by assumption)) _)))
        ((go_split_ands; go_at_call 26; refine (HGv.out _ (by assumption)).mono ?_; rintro e w8 hp; obtain ⟨hb8, A8, c8, rfl, hk1, hk2, hsn⟩ := RepPost.some' HN.out.1 hp; clear hp; have h8 : Below w3.heap.size w3 w8 := bthen (by assumption) hb8; (try (obtain ⟨q0, q1, q2, q3⟩ := (((Blk.new w3 25 [.int .i64 0, .slice none 0 0]).drew).below hb8 (by simp)).all2; have q4 : w3.heap.size < w8.heap.size := (((Blk.new w3 25 [.int .i64 0, .slice none 0 0]).drew).below hb8 (by simp)).lt))))
      all_goals
        go_wp2_with fail
        go_meet
        first | exact BxCut.late h8 hsn hk1 hk2 | exact BxCut.early hb8 (by simpa using hsn) hk1 hk2
    case rest =>
      obtain ⟨w4, rfl⟩ : ∃ w4, w4 = wc := ⟨_, rfl⟩
      obtain ⟨b9, A9, c9, rfl, rfl, hle3, hBx, hbx⟩ := hcut
      clear HS HGv hga hgb
      have HF4 : Hid (∀ W, Below w4.heap.size w4 W → Rp W b9 0 1 1 A9 nab c9 ab ∧ Rp W b7 0 1 0 A7 nab c7 ab ∧ Rp W w1.heap.size 0 1 0 A0 n0 c0 B[0]! ∧ Rp W w1.heap.size 2 3 1 A1 n1 c1 B[1]! ∧ Rp W w1.heap.size 4 5 2 A2 n2 c2 B[2]! ∧ RL W ∧ Below w.heap.size w W ∧ Below w2.heap.size w2 W) := hide (fun W h => ⟨(hBx.to h).rp, HF3.out W (bthen hbx h)⟩)
      have HC4 := hide (And.intro hBx.hnc hBx.hc)
      clear hBx hbx
      have hga : w1.heap.size < w4.heap.size := (HF4.out w4 (Below.refl _ _)).2.2.2.1.lt
      have hgb : w1.heap.size < w4.heap.size := (HF4.out w4 (Below.refl _ _)).2.2.2.2.1.lt
      have HS : Hid (∀ W, Below w4.heap.size w4 W → W.cell? ⟨w1.heap.size, 2, none⟩ = some (.int .i64 1) ∧ W.cell? ⟨w1.heap.size, 3, none⟩ = some (.slice A1 n1 c1) ∧ W.cell? ⟨w1.heap.size, 4, none⟩ = some (.int .i64 2) ∧ W.cell? ⟨w1.heap.size, 5, none⟩ = some (.slice A2 n2 c2) ∧ Below w4.heap.size w4 W) := hide (fun W h => ⟨(HF4.out W h).2.2.2.1.c0, (HF4.out W h).2.2.2.1.c1, (HF4.out W h).2.2.2.2.1.c0, (HF4.out W h).2.2.2.2.1.c1, h⟩)
      have HGv : Hid (∀ W, Below w4.heap.size w4 W → Calls Tryz.prog 26 #[.agg #[.int .i64 1, .slice A1 n1 c1], .agg #[.int .i64 2, .slice A2 n2 c2]] W (RepPost 1 (some bc) W)) := hide (fun W h => by
        have := c_pMerge 1 A1 n1 c1 B[1]! 2 A2 n2 c2 B[2]! W (HF4.out W h).2.2.2.2.2.1 (by omega) (by omega) (HF4.out W h).2.2.2.1.slr (HF4.out W h).2.2.2.2.1.slr
        rw [HO.out.e3] at this
        exact this)
      go_wp2_with fail
      go_cut [11, 12] from 57 to 66 (fun v u wx => BxCut 1 bc nbc w4 v u wx)
      case first =>
        go_region_held3 (fun W => W.cell? ⟨w1.heap.size, 2, none⟩ = some (.int .i64 1) ∧ W.cell? ⟨w1.heap.size, 3, none⟩ = some (.slice A1 n1 c1) ∧ W.cell? ⟨w1.heap.size, 4, none⟩ = some (.int .i64 2) ∧ W.cell? ⟨w1.heap.size, 5, none⟩ = some (.slice A2 n2 c2) ∧ Below w4.heap.size w4 W)
          (first | exact HS.out _ (by assumption) | exact HS.out _ (bdrew (Below.refl _ _)) | exact HS.out _ h8 | exact HS.out _ (balloc h8 _) | exact HS.out _ (bset (bset h8 (Nat.le_refl _) _) (Nat.le_refl _) _) | (go_split_ands; first | exact HS.out _ (by assumption) | exact HS.out _ (bthen (by assumption) (by assumption)) | exact HS.out _ (balloc (by assumption) _) | exact HS.out _ (bdrew (balloc (Below.refl _ _) _)) | exact HS.out _ (balloc (bthen (by assumption) (by assumption)) _)))
          ((go_split_ands; go_at_call 26; refine (HGv.out _ (by assumption)).mono ?_; rintro e w8 hp; obtain ⟨hb8, A8, c8, rfl, hk1, hk2, hsn⟩ := RepPost.some' HN.out.2.1 hp; clear hp; have h8 : Below w4.heap.size w4 w8 := bthen (by assumption) hb8; (try (obtain ⟨q0, q1, q2, q3⟩ := (((Blk.new w4 25 [.int .i64 0, .slice none 0 0]).drew).below hb8 (by simp)).all2; have q4 : w4.heap.size < w8.heap.size := (((Blk.new w4 25 [.int .i64 0, .slice none 0 0]).drew).below hb8 (by simp)).lt))))
        all_goals
          go_wp2_with fail
          go_meet
          first | exact BxCut.late h8 hsn hk1 hk2 | exact BxCut.early hb8 (by simpa using hsn) hk1 hk2
      case rest =>
        obtain ⟨w5, rfl⟩ : ∃ w5, w5 = wc := ⟨_, rfl⟩
        obtain ⟨b11, A11, c11, rfl, rfl, hle4, hBx, hbx⟩ := hcut
        clear HS HGv hga hgb
        have HF5 : Hid (∀ W, Below w5.heap.size w5 W → Rp W b11 0 1 1 A11 nbc c11 bc ∧ Rp W b9 0 1 1 A9 nab c9 ab ∧ Rp W b7 0 1 0 A7 nab c7 ab ∧ Rp W w1.heap.size 0 1 0 A0 n0 c0 B[0]! ∧ Rp W w1.heap.size 2 3 1 A1 n1 c1 B[1]! ∧ Rp W w1.heap.size 4 5 2 A2 n2 c2 B[2]! ∧ RL W ∧ Below w.heap.size w W ∧ Below w2.heap.size w2 W) := hide (fun W h => ⟨(hBx.to h).rp, HF4.out W (bthen hbx h)⟩)
        have HC5 := hide (And.intro hBx.hnc hBx.hc)
        clear hBx hbx
        have hga : b7 < w5.heap.size := (HF5.out w5 (Below.refl _ _)).2.2.1.lt
        have hgb : w1.heap.size < w5.heap.size := (HF5.out w5 (Below.refl _ _)).2.2.2.2.2.1.lt
        have HS : Hid (∀ W, Below w5.heap.size w5 W → W.cell? ⟨b7, 0, none⟩ = some (.int .i64 0) ∧ W.cell? ⟨b7, 1, none⟩ = some (.slice A7 nab c7) ∧ W.cell? ⟨w1.heap.size, 4, none⟩ = some (.int .i64 2) ∧ W.cell? ⟨w1.heap.size, 5, none⟩ = some (.slice A2 n2 c2) ∧ Below w5.heap.size w5 W) := hide (fun W h => ⟨(HF5.out W h).2.2.1.c0, (HF5.out W h).2.2.1.c1, (HF5.out W h).2.2.2.2.2.1.c0, (HF5.out W h).2.2.2.2.2.1.c1, h⟩)
        have HGv : Hid (∀ W, Below w5.heap.size w5 W → Calls Tryz.prog 26 #[.agg #[.int .i64 0, .slice A7 nab c7], .agg #[.int .i64 2, .slice A2 n2 c2]] W (RepPost 0 (some lf) W)) := hide (fun W h => by
          have := c_pMerge 0 A7 nab c7 ab 2 A2 n2 c2 B[2]! W (HF5.out W h).2.2.2.2.2.2.1 (by omega) (by omega) (HF5.out W h).2.2.1.slr (HF5.out W h).2.2.2.2.2.1.slr
          rw [HO.out.e4] at this
          exact this)
        go_wp2_with fail
        go_cut [13, 14] from 67 to 74 (fun v u wx => BxCut 0 lf nlf w5 v u wx)
        case first =>
          go_region_held3 (fun W => W.cell? ⟨b7, 0, none⟩ = some (.int .i64 0) ∧ W.cell? ⟨b7, 1, none⟩ = some (.slice A7 nab c7) ∧ W.cell? ⟨w1.heap.size, 4, none⟩ = some (.int .i64 2) ∧ W.cell? ⟨w1.heap.size, 5, none⟩ = some (.slice A2 n2 c2) ∧ Below w5.heap.size w5 W)
            (first | exact HS.out _ (by assumption) | exact HS.out _ (bdrew (Below.refl _ _)) | exact HS.out _ h8 | exact HS.out _ (balloc h8 _) | exact HS.out _ (bset (bset h8 (Nat.le_refl _) _) (Nat.le_refl _) _) | (go_split_ands; first | exact HS.out _ (by assumption) | exact HS.out _ (bthen (by assumption) (by assumption)) | exact HS.out _ (balloc (by assumption) _) | exact HS.out _ (bdrew (balloc (Below.refl _ _) _)) | exact HS.out _ (balloc (bthen (by assumption) (by assumption)) _)))
            ((go_split_ands; go_at_call 26; refine (HGv.out _ (by assumption)).mono ?_; rintro e w8 hp; obtain ⟨hb8, A8, c8, rfl, hk1, hk2, hsn⟩ := RepPost.some' HN.out.2.2 hp; clear hp; have h8 : Below w5.heap.size w5 w8 := bthen (by assumption) hb8; (try (obtain ⟨q0, q1, q2, q3⟩ := (((Blk.new w5 25 [.int .i64 0, .slice none 0 0]).drew).below hb8 (by simp)).all2; have q4 : w5.heap.size < w8.heap.size := (((Blk.new w5 25 [.int .i64 0, .slice none 0 0]).drew).below hb8 (by simp)).lt))))
          all_goals
            go_wp2_with fail
            go_meet
            first | exact BxCut.late h8 hsn hk1 hk2 | exact BxCut.early hb8 (by simpa using hsn) hk1 hk2
        case rest =>
          obtain ⟨w6, rfl⟩ : ∃ w6, w6 = wc := ⟨_, rfl⟩
          obtain ⟨b13, A13, c13, rfl, rfl, hle5, hBx, hbx⟩ := hcut
          clear HS HGv hga hgb
          have HF6 : Hid (∀ W, Below w6.heap.size w6 W → Rp W b13 0 1 0 A13 nlf c13 lf ∧ Rp W b11 0 1 1 A11 nbc c11 bc ∧ Rp W b9 0 1 1 A9 nab c9 ab ∧ Rp W b7 0 1 0 A7 nab c7 ab ∧ Rp W w1.heap.size 0 1 0 A0 n0 c0 B[0]! ∧ Rp W w1.heap.size 2 3 1 A1 n1 c1 B[1]! ∧ Rp W w1.heap.size 4 5 2 A2 n2 c2 B[2]! ∧ RL W ∧ Below w.heap.size w W ∧ Below w2.heap.size w2 W) := hide (fun W h => ⟨(hBx.to h).rp, HF5.out W (bthen hbx h)⟩)
          have HC6 := hide (And.intro hBx.hnc hBx.hc)
          clear hBx hbx
          have hga : w1.heap.size < w6.heap.size := (HF6.out w6 (Below.refl _ _)).2.2.2.2.1.lt
          have hgb : b11 < w6.heap.size := (HF6.out w6 (Below.refl _ _)).2.1.lt
          have HS : Hid (∀ W, Below w6.heap.size w6 W → W.cell? ⟨w1.heap.size, 0, none⟩ = some (.int .i64 0) ∧ W.cell? ⟨w1.heap.size, 1, none⟩ = some (.slice A0 n0 c0) ∧ W.cell? ⟨b11, 0, none⟩ = some (.int .i64 1) ∧ W.cell? ⟨b11, 1, none⟩ = some (.slice A11 nbc c11) ∧ Below w6.heap.size w6 W) := hide (fun W h => ⟨(HF6.out W h).2.2.2.2.1.c0, (HF6.out W h).2.2.2.2.1.c1, (HF6.out W h).2.1.c0, (HF6.out W h).2.1.c1, h⟩)
          have HGv : Hid (∀ W, Below w6.heap.size w6 W → Calls Tryz.prog 26 #[.agg #[.int .i64 0, .slice A0 n0 c0], .agg #[.int .i64 1, .slice A11 nbc c11]] W (RepPost 0 (some lf) W)) := hide (fun W h => by
            have := c_pMerge 0 A0 n0 c0 B[0]! 1 A11 nbc c11 bc W (HF6.out W h).2.2.2.2.2.2.2.1 (by omega) (by omega) (HF6.out W h).2.2.2.2.1.slr (HF6.out W h).2.1.slr
            rw [HO.out.e5] at this
            exact this)
          go_wp2_with fail
          go_cut [15, 16] from 75 to 82 (fun v u wx => BxCut 0 lf nlf w6 v u wx)
          case first =>
            go_region_held3 (fun W => W.cell? ⟨w1.heap.size, 0, none⟩ = some (.int .i64 0) ∧ W.cell? ⟨w1.heap.size, 1, none⟩ = some (.slice A0 n0 c0) ∧ W.cell? ⟨b11, 0, none⟩ = some (.int .i64 1) ∧ W.cell? ⟨b11, 1, none⟩ = some (.slice A11 nbc c11) ∧ Below w6.heap.size w6 W)
              (first | exact HS.out _ (by assumption) | exact HS.out _ (bdrew (Below.refl _ _)) | exact HS.out _ h8 | exact HS.out _ (balloc h8 _) | exact HS.out _ (bset (bset h8 (Nat.le_refl _) _) (Nat.le_refl _) _) | (go_split_ands; first | exact HS.out _ (by assumption) | exact HS.out _ (bthen (by assumption) (by assumption)) | exact HS.out _ (balloc (by assumption) _) | exact HS.out _ (bdrew (balloc (Below.refl _ _) _)) | exact HS.out _ (balloc (bthen (by assumption) (by assumption)) _)))
              ((go_split_ands; go_at_call 26; refine (HGv.out _ (by assumption)).mono ?_; rintro e w8 hp; obtain ⟨hb8, A8, c8, rfl, hk1, hk2, hsn⟩ := RepPost.some' HN.out.2.2 hp; clear hp; have h8 : Below w6.heap.size w6 w8 := bthen (by assumption) hb8; (try (obtain ⟨q0, q1, q2, q3⟩ := (((Blk.new w6 25 [.int .i64 0, .slice none 0 0]).drew).below hb8 (by simp)).all2; have q4 : w6.heap.size < w8.heap.size := (((Blk.new w6 25 [.int .i64 0, .slice none 0 0]).drew).below hb8 (by simp)).lt))))
            all_goals
              go_wp2_with fail
              go_meet
              first | exact BxCut.late h8 hsn hk1 hk2 | exact BxCut.early hb8 (by simpa using hsn) hk1 hk2
          case rest =>
            obtain ⟨w7, rfl⟩ : ∃ w7, w7 = wc := ⟨_, rfl⟩
            obtain ⟨b15, A15, c15, rfl, rfl, hle6, hBx, hbx⟩ := hcut
            clear HS HGv hga hgb
            have HF7 : Hid (∀ W, Below w7.heap.size w7 W → Rp W b15 0 1 0 A15 nlf c15 lf ∧ Rp W b13 0 1 0 A13 nlf c13 lf ∧ Rp W b11 0 1 1 A11 nbc c11 bc ∧ Rp W b9 0 1 1 A9 nab c9 ab ∧ Rp W b7 0 1 0 A7 nab c7 ab ∧ Rp W w1.heap.size 0 1 0 A0 n0 c0 B[0]! ∧ Rp W w1.heap.size 2 3 1 A1 n1 c1 B[1]! ∧ Rp W w1.heap.size 4 5 2 A2 n2 c2 B[2]! ∧ RL W ∧ Below w.heap.size w W ∧ Below w2.heap.size w2 W) := hide (fun W h => ⟨(hBx.to h).rp, HF6.out W (bthen hbx h)⟩)
            have HC7 := hide (And.intro hBx.hnc hBx.hc)
            clear hBx hbx
            have e13a := (HF7.out w7 (Below.refl _ _)).2.1.c0
            have e13b := (HF7.out w7 (Below.refl _ _)).2.1.c1
            have e13l := (HF7.out w7 (Below.refl _ _)).2.1.lt
            have e11a := (HF7.out w7 (Below.refl _ _)).2.2.1.c0
            have e11b := (HF7.out w7 (Below.refl _ _)).2.2.1.c1
            have e11l := (HF7.out w7 (Below.refl _ _)).2.2.1.lt
            go_upto_region 11 with (go_at_call 26; refine (c_pMerge 0 A13 nlf c13 lf 1 A11 nbc c11 bc w7 (HF7.out w7 (Below.refl _ _)).2.2.2.2.2.2.2.2.1 (by omega) (by omega) (HF7.out w7 (Below.refl _ _)).2.1.slr (HF7.out w7 (Below.refl _ _)).2.2.1.slr).mono ?_; rintro e w8 hp; rw [HO.out.e6] at hp; obtain ⟨hb, A17, c17, rfl, hk1, hk2, hsn⟩ := RepPost.some' HN.out.2.2 hp; clear hp e13a e13b e13l e11a e11b e11l; have H17 := hide (And.intro hb (And.intro hsn (And.intro hk1 hk2))); clear hb hsn hk1 hk2)
            have g17 : Bx (w8.alloc (.cells #[.int .i64 0, .slice A17 nlf c17] 25)) w8.heap.size 0 A17 nlf c17 lf := ⟨Blk.new w8 25 [.int .i64 0, .slice A17 nlf c17], H17.out.2.1.1.to' (balloc (Below.refl _ _) _), H17.out.2.2.1, H17.out.2.2.2⟩
            have hb9 := balloc H17.out.1 (.cells #[.int .i64 0, .slice A17 nlf c17] 25)
            generalize w8.alloc (.cells #[.int .i64 0, .slice A17 nlf c17] 25) = w9 at *
            have HF9 : Hid (∀ W, Below w9.heap.size w9 W → Rp W w8.heap.size 0 1 0 A17 nlf c17 lf ∧ Rp W b15 0 1 0 A15 nlf c15 lf ∧ Rp W b13 0 1 0 A13 nlf c13 lf ∧ Rp W b11 0 1 1 A11 nbc c11 bc ∧ Rp W b9 0 1 1 A9 nab c9 ab ∧ Rp W b7 0 1 0 A7 nab c7 ab ∧ Rp W w1.heap.size 0 1 0 A0 n0 c0 B[0]! ∧ Rp W w1.heap.size 2 3 1 A1 n1 c1 B[1]! ∧ Rp W w1.heap.size 4 5 2 A2 n2 c2 B[2]! ∧ RL W ∧ Below w.heap.size w W ∧ Below w2.heap.size w2 W) := hide (fun W h => ⟨(g17.to h).rp, HF7.out W (bthen hb9 h)⟩)
            clear g17 hb9
            have e7a := (HF9.out w9 (Below.refl _ _)).2.2.2.2.2.1.c0
            have e7b := (HF9.out w9 (Below.refl _ _)).2.2.2.2.2.1.c1
            have e7l := (HF9.out w9 (Below.refl _ _)).2.2.2.2.2.1.lt
            have e9a := (HF9.out w9 (Below.refl _ _)).2.2.2.2.1.c0
            have e9b := (HF9.out w9 (Below.refl _ _)).2.2.2.2.1.c1
            have e9l := (HF9.out w9 (Below.refl _ _)).2.2.2.2.1.lt
            have e13a := (HF9.out w9 (Below.refl _ _)).2.2.1.c0
            have e13b := (HF9.out w9 (Below.refl _ _)).2.2.1.c1
            have e13l := (HF9.out w9 (Below.refl _ _)).2.2.1.lt
            have e15a := (HF9.out w9 (Below.refl _ _)).2.1.c0
            have e15b := (HF9.out w9 (Below.refl _ _)).2.1.c1
            have e15l := (HF9.out w9 (Below.refl _ _)).2.1.lt
            have e17a := (HF9.out w9 (Below.refl _ _)).1.c0
            have e17b := (HF9.out w9 (Below.refl _ _)).1.c1
            have e17l := (HF9.out w9 (Below.refl _ _)).1.lt
            have hs1 : Hid (∀ W, Below w9.heap.size w9 W → Calls Tryz.prog 15 #[.slice A7 nab c7, .slice A9 nab c9] W fun e w' => e = .returned (.bool true) ∧ Below W.heap.size W w') := hide (fun W h => by
              have := c_rSameRecords A7 nab c7 ab A9 nab c9 ab W (by omega) (by omega) (HF9.out W h).2.2.2.2.2.1.slr (HF9.out W h).2.2.2.2.1.slr
              rw [decide_eq_true rfl] at this
              exact this)
            have hs2 : Hid (∀ W, Below w9.heap.size w9 W → Calls Tryz.prog 20 #[.agg #[.int .i64 0, .slice A13 nlf c13], .agg #[.int .i64 0, .slice A15 nlf c15]] W fun e w' => e = .returned (.bool true) ∧ Below W.heap.size W w') := hide (fun W h => by
              have := c_rSame 0 A13 nlf c13 lf 0 A15 nlf c15 lf W (by omega) (by omega) (HF9.out W h).2.2.1.slr (HF9.out W h).2.1.slr
              rw [decide_eq_true rfl, decide_eq_true rfl] at this
              exact this)
            have hs3 : Hid (∀ W, Below w9.heap.size w9 W → Calls Tryz.prog 20 #[.agg #[.int .i64 0, .slice A17 nlf c17], .agg #[.int .i64 0, .slice A13 nlf c13]] W fun e w' => e = .returned (.bool true) ∧ Below W.heap.size W w') := hide (fun W h => by
              have := c_rSame 0 A17 nlf c17 lf 0 A13 nlf c13 lf W (by omega) (by omega) (HF9.out W h).1.slr (HF9.out W h).2.2.1.slr
              rw [decide_eq_true rfl, decide_eq_true rfl] at this
              exact this)
            go_upto_region 15 with (first | (go_at_call 15; refine (hs1.out _ (Below.refl _ _)).mono ?_; rintro e w10 ⟨rfl, hb⟩; have HB10 := hide hb; clear hb; clear e7a e7b e7l e9a e9b e9l e13a e13b e13l e15a e15b e15l e17a e17b e17l; have e7a := (HF9.out w10 HB10.out).2.2.2.2.2.1.c0; have e7b := (HF9.out w10 HB10.out).2.2.2.2.2.1.c1; have e7l := (HF9.out w10 HB10.out).2.2.2.2.2.1.lt; have e9a := (HF9.out w10 HB10.out).2.2.2.2.1.c0; have e9b := (HF9.out w10 HB10.out).2.2.2.2.1.c1; have e9l := (HF9.out w10 HB10.out).2.2.2.2.1.lt; have e13a := (HF9.out w10 HB10.out).2.2.1.c0; have e13b := (HF9.out w10 HB10.out).2.2.1.c1; have e13l := (HF9.out w10 HB10.out).2.2.1.lt; have e15a := (HF9.out w10 HB10.out).2.1.c0; have e15b := (HF9.out w10 HB10.out).2.1.c1; have e15l := (HF9.out w10 HB10.out).2.1.lt; have e17a := (HF9.out w10 HB10.out).1.c0; have e17b := (HF9.out w10 HB10.out).1.c1; have e17l := (HF9.out w10 HB10.out).1.lt) | (go_at_call 20; with_reducible refine (hs2.out _ HB10.out).mono ?_; rintro e w11 ⟨rfl, hb⟩; have HB11 := hide (bthen HB10.out hb); clear hb; clear e7a e7b e7l e9a e9b e9l e13a e13b e13l e15a e15b e15l e17a e17b e17l; have e7a := (HF9.out w11 HB11.out).2.2.2.2.2.1.c0; have e7b := (HF9.out w11 HB11.out).2.2.2.2.2.1.c1; have e7l := (HF9.out w11 HB11.out).2.2.2.2.2.1.lt; have e9a := (HF9.out w11 HB11.out).2.2.2.2.1.c0; have e9b := (HF9.out w11 HB11.out).2.2.2.2.1.c1; have e9l := (HF9.out w11 HB11.out).2.2.2.2.1.lt; have e13a := (HF9.out w11 HB11.out).2.2.1.c0; have e13b := (HF9.out w11 HB11.out).2.2.1.c1; have e13l := (HF9.out w11 HB11.out).2.2.1.lt; have e15a := (HF9.out w11 HB11.out).2.1.c0; have e15b := (HF9.out w11 HB11.out).2.1.c1; have e15l := (HF9.out w11 HB11.out).2.1.lt; have e17a := (HF9.out w11 HB11.out).1.c0; have e17b := (HF9.out w11 HB11.out).1.c1; have e17l := (HF9.out w11 HB11.out).1.lt) | (go_at_call 20; with_reducible refine (hs3.out _ HB11.out).mono ?_; rintro e w12 ⟨rfl, hb⟩; have HB12 := hide (bthen HB11.out hb); clear hb; clear e7a e7b e7l e9a e9b e9l e13a e13b e13l e15a e15b e15l e17a e17b e17l))
            have HQ : Hid (∀ W, Below w12.heap.size w12 W → Rp W b13 0 1 0 A13 nlf c13 lf ∧ RL W ∧ Below w.heap.size w W ∧ SlR W W.heap.size 1 D M (os.map (Value.int .i64))) := hide (fun W h => ⟨(HF9.out W (bthen HB12.out h)).2.2.1, (HF9.out W (bthen HB12.out h)).2.2.2.2.2.2.2.2.2.1, (HF9.out W (bthen HB12.out h)).2.2.2.2.2.2.2.2.2.2.1, HD.out.2.2.to' (HF9.out W (bthen HB12.out h)).2.2.2.2.2.2.2.2.2.2.1⟩)
            have HE12 := hide (HE.out.to (HF9.out w12 HB12.out).2.2.2.2.2.2.2.2.2.2.2)
            have HO0 := hide (HO.out.oi M)
            clear hs1 hs2 hs3 HF2 HF3 HF4 HF5 HF6 HF7 HF9 HE HC3 HC4 HC5 HC6 HC7 H17 hle2 hle3 hle4 hle5 hle6 HT HT2
            obtain ⟨T, hT⟩ : ∃ T, wrap64 ((M : Int) + 6) = T := ⟨_, rfl⟩
            have hT6 : M = 0 → T = 6 := fun h => by rw [← hT, h]; exact Go.IntWalk.wrap64_in _ (by decide)
            have HTT := hide hT
            clear hT
            go_wp2_with fail
            go_loopw [19, 20] (fun v i W => ∃ (k : Nat) (A' : Option Addr) (c' : Nat) (es : List En) (L : List (List Rc)), k ≤ 14 ∧ i = .int .i64 k ∧ v = .slice A' 3 c' ∧ Hid (Now W A' c' es L) ∧ Hid (OI lf B M k L) ∧ Below w12.heap.size w12 W) (fun _ i _ => 14 - (intOf i).toNat)
            case atStart => exact ⟨0, _, _, es0, B, Nat.zero_le _, rfl, rfl, HE12, HO0, Below.refl _ _⟩
            case round =>
              obtain ⟨k, An, cn, es, L, hk, rfl, rfl, hnow, hoi, hbW⟩ := hrel
              obtain ⟨wo, rfl⟩ : ∃ wo, wo = wr := ⟨_, rfl⟩
              have HW := hide hbW
              obtain ⟨gn, on, rfl, hgn⟩ := hnow.out.some
              have hcn := hnow.out.hc
              have hcn' := hnow.out.hc'
              clear hbW
              obtain ⟨C, hC⟩ : ∃ C, C = (decide ((k : Int) < T) && decide (k < 14)) := ⟨_, rfl⟩
              have HC := hide hC
              clear hC
              go_upto_region 17 with (fail)
              go_cut [143] from 135 to 143 (fun v wx => v = .bool C ∧ wx = wo)
              case first =>
                have hT := HTT.out
                by_cases h1 : (k : Int) < T
                · by_cases h2 : k < 14
                  · have h2i : (k : Int) < 14 := by omega
                    have hCt : C = true := by rw [HC.out, decide_eq_true h1, decide_eq_true h2]; rfl
                    subst hCt
                    go_wp2_with fail
                    go_meet
                    exact ⟨rfl, rfl⟩
                  · have h2i : ¬ (k : Int) < 14 := by omega
                    have hCt : C = false := by rw [HC.out, decide_eq_true h1, decide_eq_false h2]; rfl
                    subst hCt
                    go_wp2_with fail
                    go_meet
                    exact ⟨rfl, rfl⟩
                · have hCt : C = false := by rw [HC.out, decide_eq_false h1]; rfl
                  have h1d : decide ((k : Int) < T) = false := decide_eq_false h1
                  subst hCt
                  go_wp2_with fail
                  go_meet
                  exact ⟨rfl, rfl⟩
              case rest =>
                obtain ⟨rfl, hwc⟩ := hcut
                obtain rfl := hwc.symm
                cases C with
                | true =>
                  have hk14 : k < 14 := by
                    have := HC.out.symm
                    rw [Bool.and_eq_true, decide_eq_true_eq, decide_eq_true_eq] at this
                    exact this.2
                  have hm1 : (k : Int).tmod 3 = ((k % 3 : Nat) : Int) := by rw [Int.tmod_eq_emod_of_nonneg (by omega)]; omega
                  have hm2 : ((k : Int) + 1).tmod 3 = (((k + 1) % 3 : Nat) : Int) := by rw [Int.tmod_eq_emod_of_nonneg (by omega)]; omega
                  go_upto_if 154 with (fail)
                  obtain ⟨C2, hC2⟩ : ∃ C2, C2 = decide (k < M) := ⟨_, rfl⟩
                  rw [← hC2]
                  have HC2 := hide hC2
                  clear hC2 hm1 hm2
                  go_cut [21, 22] from 155 to 165 (fun u v wx => ∃ a b : Nat, u = .int .i64 a ∧ v = .int .i64 b ∧ a < 3 ∧ b < 3 ∧ (M ≤ k → a = k % 3 ∧ b = (k + 1) % 3) ∧ wx = wo)
                  case first =>
                    cases C2 with
                    | true =>
                      have hkM : k < M := of_decide_eq_true HC2.out.symm
                      have hkMi : (k : Int) < (M : Int) := by omega
                      have hko : k < os.length := by have := HD.out.2.1; omega
                      obtain ⟨bd, od, rfl, hbd, hcd⟩ := (HQ.out wo HW.out).2.2.2.2 (by omega)
                      have hck := hcd k (.int .i64 (os[k]'hko)) (by rw [List.getElem?_map, List.getElem?_eq_getElem hko]; rfl)
                      have hbk := HD.out.1 _ (List.getElem_mem hko)
                      obtain ⟨z, hz⟩ : ∃ z, os[k]'hko = z := ⟨_, rfl⟩
                      rw [hz] at hck hbk
                      clear hz hcd
                      have hqz := i64_quo z hbk.1 hbk.2
                      have hp1 : ∀ W : World, Calls Tryz.prog 21 #[.int .i64 z, .int .i64 3] W fun e w' => e = .returned (.int .i64 (pkN z 3 : Nat)) ∧ W = w' := fun W => by
                        have := c_lpick z 3 W hbk.1 hbk.2 (by omega) (by omega)
                        rw [show pk z 3 = ((pkN z 3 : Nat) : Int) from pk_N z 3 (by omega)] at this
                        exact this
                      have hp2 : ∀ W : World, Calls Tryz.prog 21 #[.int .i64 (z.tdiv 3), .int .i64 3] W fun e w' => e = .returned (.int .i64 (pkN (z.tdiv 3) 3 : Nat)) ∧ W = w' := fun W => by
                        have := c_lpick (z.tdiv 3) 3 W hqz.1 hqz.2 (by omega) (by omega)
                        rw [show pk (z.tdiv 3) 3 = ((pkN (z.tdiv 3) 3 : Nat) : Int) from pk_N _ 3 (by omega)] at this
                        exact this
                      have ha3 := pkN_lt z 3 (by omega)
                      have hb3 := pkN_lt (z.tdiv 3) 3 (by omega)
                      generalize hzd : z.tdiv 3 = zd at *
                      generalize pkN z 3 = a at *
                      generalize pkN zd 3 = b at *
                      have hzw : wrap64 (z.tdiv 3) = zd := by rw [hzd]; exact Go.IntWalk.wrap64_in _ hqz
                      go_wp2_with (go_at_call 21; first | (with_reducible refine (hp1 _).mono ?_; rintro e w' ⟨rfl, rfl⟩) | (with_reducible refine (hp2 _).mono ?_; rintro e w' ⟨rfl, rfl⟩))
                      go_meet
                      exact ⟨a, b, rfl, rfl, ha3, hb3, fun h => absurd h (by omega), rfl⟩
                    | false =>
                      go_wp2_with fail
                      go_meet
                      exact ⟨k % 3, (k + 1) % 3, congrArg (Value.int .i64) (by omega), congrArg (Value.int .i64) (by omega), Nat.mod_lt _ (by omega), Nat.mod_lt _ (by omega), fun _ => ⟨rfl, rfl⟩, rfl⟩
                  case rest =>
                    obtain ⟨a, b, rfl, rfl, ha3, hb3, hab, hwc⟩ := hcut
                    obtain rfl := hwc.symm
                    obtain ⟨m1, m2, f1, f2, f3, f4, f5, f6⟩ := HO.out.step hoi.out ha3 hb3 hab
                    have HM := hide (And.intro f1 (And.intro f2 (And.intro f3 (And.intro f4 (And.intro f5 f6)))))
                    obtain ⟨nm1, hnm1⟩ : ∃ n, m1.length = n := ⟨_, rfl⟩
                    obtain ⟨nm2, hnm2⟩ : ∃ n, m2.length = n := ⟨_, rfl⟩
                    have hm124 : nm1 ≤ 24 := by omega
                    have hm224 : nm2 ≤ 24 := by omega
                    have HNm := hide (And.intro hnm1 hnm2)
                    obtain ⟨Aa, hAa⟩ : ∃ A, (es[a]!).A = A := ⟨_, rfl⟩
                    obtain ⟨na, hna⟩ : ∃ A, (es[a]!).n = A := ⟨_, rfl⟩
                    obtain ⟨ca, hca⟩ : ∃ A, (es[a]!).c = A := ⟨_, rfl⟩
                    obtain ⟨Ab, hAb⟩ : ∃ A, (es[b]!).A = A := ⟨_, rfl⟩
                    obtain ⟨nb, hnb⟩ : ∃ A, (es[b]!).n = A := ⟨_, rfl⟩
                    obtain ⟨cb, hcb⟩ : ∃ A, (es[b]!).c = A := ⟨_, rfl⟩
                    have hna24 : na ≤ 150 := by rw [← hna, ← (hnow.out.ok a ha3).len]; have := (HO.out.fin hoi.out ha3).2.1; omega
                    have hnb24 : nb ≤ 150 := by rw [← hnb, ← (hnow.out.ok b hb3).len]; have := (HO.out.fin hoi.out hb3).2.1; omega
                    have HNw : Hid (∀ W, Below wo.heap.size wo W → Now W (some ⟨gn, on, none⟩) cn es L) := hide (fun W h => hnow.out.to h)
                    have HS : Hid (∀ W, Below wo.heap.size wo W → W.cell? ⟨gn, on + a * 2, none⟩ = some (.int .i64 a) ∧ W.cell? ⟨gn, on + a * 2 + 1, none⟩ = some (.slice Aa na ca) ∧ W.cell? ⟨gn, on + b * 2, none⟩ = some (.int .i64 b) ∧ W.cell? ⟨gn, on + b * 2 + 1, none⟩ = some (.slice Ab nb cb) ∧ Below wo.heap.size wo W) := hide (fun W h => by
                      obtain ⟨g1, g2⟩ := (HNw.out W h).cells ha3
                      obtain ⟨g3, g4⟩ := (HNw.out W h).cells hb3
                      rw [hAa, hna, hca] at g2
                      rw [hAb, hnb, hcb] at g4
                      exact ⟨g1, g2, g3, g4, h⟩)
                    have HGv : Hid (∀ W, Below wo.heap.size wo W → Calls Tryz.prog 26 #[.agg #[.int .i64 a, .slice Aa na ca], .agg #[.int .i64 b, .slice Ab nb cb]] W (RepPost a (some m1) W)) := hide (fun W h => by
                      have h1 := ((HNw.out W h).ok a ha3).slr
                      have h2 := ((HNw.out W h).ok b hb3).slr
                      rw [hAa, hna] at h1
                      rw [hAb, hnb] at h2
                      have := c_pMerge a Aa na ca L[a]! b Ab nb cb L[b]! W (HQ.out W (bthen HW.out h)).2.1 (by omega) (by omega) h1 h2
                      rw [HM.out.1] at this
                      exact this)
                    have hai : (a : Int) < 3 := by omega
                    have hbi : (b : Int) < 3 := by omega
                    clear f1 f2 f3 f4 f5 f6 hnm1 hnm2 hAa hna hca hAb hnb hcb hab
                    go_wp2_with fail
                    go_cut [23, 24] from 166 to 177 (fun v u wx => BxCut a m1 nm1 wo v u wx)
                    case first =>
                      go_region_held3 (fun W => W.cell? ⟨gn, on + a * 2, none⟩ = some (.int .i64 a) ∧ W.cell? ⟨gn, on + a * 2 + 1, none⟩ = some (.slice Aa na ca) ∧ W.cell? ⟨gn, on + b * 2, none⟩ = some (.int .i64 b) ∧ W.cell? ⟨gn, on + b * 2 + 1, none⟩ = some (.slice Ab nb cb) ∧ Below wo.heap.size wo W)
                        (first | exact HS.out _ (by assumption) | exact HS.out _ (bdrew (Below.refl _ _)) | exact HS.out _ h8 | exact HS.out _ (balloc h8 _) | exact HS.out _ (bset (bset h8 (Nat.le_refl _) _) (Nat.le_refl _) _) | (go_split_ands; first | exact HS.out _ (by assumption) | exact HS.out _ (bthen (by assumption) (by assumption)) | exact HS.out _ (balloc (by assumption) _) | exact HS.out _ (bdrew (balloc (Below.refl _ _) _)) | exact HS.out _ (balloc (bthen (by assumption) (by assumption)) _)))
                        ((go_split_ands; go_at_call 26; refine (HGv.out _ (by assumption)).mono ?_; rintro e w8 hp; obtain ⟨hb8, A8, c8, rfl, hk1, hk2, hsn⟩ := RepPost.some' HNm.out.1 hp; clear hp; have h8 : Below wo.heap.size wo w8 := bthen (by assumption) hb8; (try (obtain ⟨q0, q1, q2, q3⟩ := (((Blk.new wo 25 [.int .i64 0, .slice none 0 0]).drew).below hb8 (by simp)).all2; have q4 : wo.heap.size < w8.heap.size := (((Blk.new wo 25 [.int .i64 0, .slice none 0 0]).drew).below hb8 (by simp)).lt))))
                      all_goals
                        go_wp2_with fail
                        go_meet
                        first | exact BxCut.late h8 hsn hk1 hk2 | exact BxCut.early hb8 (by simpa using hsn) hk1 hk2
                    case rest =>
                      obtain ⟨wA, rfl⟩ : ∃ wA, wA = wc := ⟨_, rfl⟩
                      obtain ⟨b23, A23, c23, rfl, rfl, hle23, hB23, hbA⟩ := hcut
                      clear HS HGv
                      have HB23 := hide hB23
                      have HbA := hide hbA
                      obtain ⟨x0, x1, x2⟩ := hB23.cells
                      clear hB23 hbA
                      go_upto_region 27 with (fail)
                      have hNA := HNw.out wA HbA.out
                      have hBs := HB23.out.slr
                      have hBnc := HB23.out.hnc
                      have hBc := HB23.out.hc
                      have hLl := hoi.out.len
                      have hbox : b23 < wA.heap.size := HB23.out.cells.2.2
                      have hcn3 := hNA.hc
                      have hcnm := hNA.hc'
                      obtain ⟨-, hto⟩ := cut_to hNA.row hNA.hc (a := a) (by omega)
                      obtain ⟨Af, -, hfr⟩ := cut_from hNA.row hNA.hc (a := a) (by omega)
                      have HRw : Hid (∀ W, Below wA.heap.size wA W → SlR W W.heap.size 2 (some ⟨gn, on, none⟩) a ((es.take a).flatMap cE) ∧ SlR W W.heap.size 2 Af (2 - a) ((es.drop (a + 1)).flatMap cE)) := hide (fun W h => ⟨(cut_to (hNA.to h).row hNA.hc (a := a) (by omega)).1, by
                        obtain ⟨A2, h1, h2⟩ := cut_from (hNA.to h).row hNA.hc (a := a) (by omega)
                        have := (hfr W).symm.trans (h2 W)
                        simp only [Result.ok.injEq, Value.slice.injEq, and_true] at this
                        rw [this]; exact h1⟩)
                      have HS : Hid (∀ W, Below wA.heap.size wA W → W.cell? ⟨b23, 0, none⟩ = some (.int .i64 a) ∧ W.cell? ⟨b23, 1, none⟩ = some (.slice A23 nm1 c23)) := hide (fun W h => ⟨(HB23.out.to h).cells.1, (HB23.out.to h).cells.2.1⟩)
                      have HAW := hide (show wrap64 ((a : Int) + 1) = (a : Int) + 1 ∧ IntKind.i64.wrap ((a : Int) + 1) = (a : Int) + 1 from ⟨Go.IntWalk.wrap64_in _ (by omega), i64w (by omega) (by omega)⟩)
                      obtain ⟨j0, hj0, hz0, hz1, hz2⟩ := info_parts Tryz.infoRep
                      go_cut [19] from 186 to 198 (fun v wx => ∃ A' c', v = .slice A' 3 c' ∧ Hid (Now wx A' c' (es.set a ⟨a, A23, nm1, c23⟩) (L.set a m1)) ∧ Below wA.heap.size wA wx)
                      case first =>
                        refine wp_region_held_drew (S := fun W => W.cell? ⟨b23, 0, none⟩ = some (.int .i64 a) ∧ W.cell? ⟨b23, 1, none⟩ = some (.slice A23 nm1 c23)) (by kernel_rfl) (HS.out _ (bdrew (Below.refl _ _))) (fun hHeld => ?_)
                        obtain ⟨haw, haw2⟩ := HAW.out
                        refine wpAnyH_take (i := 1) (v := ?_) rfl (by kernel_rfl) (by kernel_rfl) (by kernel_rfl) (fun _ _ _ h => h) (Or.inl ⟨by rfl, ?hy1⟩) (by assumption) ?rs1
                        case hy1 => (intro w hSw; (try dsimp only at hSw); go_simp; try (with_reducible rfl))
                        (try simp only [Act.put, List.setIfInBounds_toArray, List.set_cons_zero, List.set_cons_succ, List.getElem_toArray, List.getElem_cons_zero, List.getElem_cons_succ])
                        refine wpAnyH_take (i := 2) (v := ?_) rfl (by kernel_rfl) (by kernel_rfl) (by kernel_rfl) (fun _ _ _ h => h) (Or.inl ⟨by rfl, ?hy2⟩) (by assumption) ?rs2
                        case hy2 => (intro w hSw; (try dsimp only at hSw); go_simp; try (with_reducible rfl))
                        (try simp only [Act.put, List.setIfInBounds_toArray, List.set_cons_zero, List.set_cons_succ, List.getElem_toArray, List.getElem_cons_zero, List.getElem_cons_succ])
                        refine wpAnyH_take (i := 3) (v := ?_) rfl (by kernel_rfl) (by kernel_rfl) (by kernel_rfl) (fun _ _ _ h => h) (Or.inl ⟨by rfl, ?hy3⟩) (by assumption) ?rs3
                        case hy3 => (intro w hSw; (try dsimp only at hSw); go_simp; try (with_reducible rfl))
                        (try simp only [Act.put, List.setIfInBounds_toArray, List.set_cons_zero, List.set_cons_succ, List.getElem_toArray, List.getElem_cons_zero, List.getElem_cons_succ])
                        refine wpAnyH_take (i := 5) (v := ?_) rfl (by kernel_rfl) (by kernel_rfl) (by kernel_rfl) (fun _ _ _ h => h) (Or.inl ⟨by rfl, ?hy4⟩) (by assumption) ?rs4
                        case hy4 => (intro w hSw; (try dsimp only at hSw); go_simp; try (with_reducible rfl))
                        (try simp only [Act.put, List.setIfInBounds_toArray, List.set_cons_zero, List.set_cons_succ, List.getElem_toArray, List.getElem_cons_zero, List.getElem_cons_succ])
                        refine wpAnyH_take (i := 8) (v := ?_) rfl (by kernel_rfl) (by kernel_rfl) (by kernel_rfl) (fun _ _ _ h => h) (Or.inl ⟨by rfl, ?hy5⟩) (by assumption) ?rs5
                        case hy5 => (intro w hSw; (try dsimp only at hSw); go_simp; try (with_reducible rfl))
                        (try simp only [Act.put, List.setIfInBounds_toArray, List.set_cons_zero, List.set_cons_succ, List.getElem_toArray, List.getElem_cons_zero, List.getElem_cons_succ])
                        refine wpAnyH_take (i := 9) (v := ?_) rfl (by kernel_rfl) (by kernel_rfl) (by kernel_rfl) (fun _ _ _ h => h) (Or.inl ⟨by rfl, ?hy6⟩) (by assumption) ?rs6
                        case hy6 => (intro w hSw; (try dsimp only at hSw); go_simp; try (with_reducible rfl))
                        (try simp only [Act.put, List.setIfInBounds_toArray, List.set_cons_zero, List.set_cons_succ, List.getElem_toArray, List.getElem_cons_zero, List.getElem_cons_succ])
                        refine wpAnyH_take (i := 10) (v := ?_) rfl (by kernel_rfl) (by kernel_rfl) (by kernel_rfl) (fun _ _ _ h => h) (Or.inl ⟨by rfl, ?hy7⟩) (by assumption) ?rs7
                        case hy7 => (intro w hSw; (try dsimp only at hSw); go_simp; try (with_reducible rfl))
                        (try simp only [Act.put, List.setIfInBounds_toArray, List.set_cons_zero, List.set_cons_succ, List.getElem_toArray, List.getElem_cons_zero, List.getElem_cons_succ])
                        refine wpAnyH_take (i := 11) (v := ?_) rfl (by kernel_rfl) (by kernel_rfl) (by kernel_rfl) (fun _ _ _ h => h) (Or.inl ⟨by rfl, ?hy8⟩) (by assumption) ?rs8
                        case hy8 => (intro w hSw; (try dsimp only at hSw); go_simp; try (with_reducible rfl))
                        (try simp only [Act.put, List.setIfInBounds_toArray, List.set_cons_zero, List.set_cons_succ, List.getElem_toArray, List.getElem_cons_zero, List.getElem_cons_succ])
                        clear haw haw2
                        refine wpAnyH_ready (rs := [0, 6]) (by kernel_rfl) (by simp) ?_
                        refine AllReadyH.cons rfl (fun K hK => ?_) ?_
                        · go_simp
                          refine hK.out _ _ (by exact (HS.out _ (bdrew (balloc (Below.refl _ _) _)))) (fun hHeld => ?_)
                          clear hK K
                          (try simp only [Act.put, List.setIfInBounds_toArray, List.set_cons_zero, List.set_cons_succ, List.getElem_toArray, List.getElem_cons_zero, List.getElem_cons_succ])
                          have hb1 : Below wA.heap.size wA (wA.alloc (.cells #[] 25)).drew := (bdrew (balloc (Below.refl _ _) _))
                          have ho1 : (wA.alloc (.cells #[] 25)).drew.ownsRow wA.heap.size 25 2 (.slice (some ⟨wA.heap.size, 0, none⟩) 0 0) 0 [] := own_emptyP wA _ (by omega)
                          generalize (wA.alloc (.cells #[] 25)).drew = v1W at *
                          have hs1 := hb1.size
                          refine wpAnyH_ready (rs := [4, 6]) (by kernel_rfl) (by simp) ?_
                          refine AllReadyH.cons (o := { dst := some 190, op := Op.call { callee := Callee.builtin Builtin.append, args := #[Operand.tmp 186, Operand.tmp 189], argTypes := #[28, 28] }, type := 28, pos := "law.go:158", after := #[{ on := 0, ground := Ground.data }, { on := 3, ground := Ground.data }], guard := none }) rfl (fun K hK => ?_) ?_
                          · refine step_append_sl (size := 2) (by rfl) _ _ 28 (by rfl) wA.heap.size 25 j0 (.agg #[.int .i64 0, .slice none 0 0]) 32 Tryz.underlying28 hj0 hz0 hz1 hz2 (by rfl) (by decide) _ _ _ (by rfl) ho1 a cn ((es.take a).flatMap cE) (by rfl) (HRw.out _ hb1).1 (Below.refl _ _) (fun u hu => oneE _ u hu) (by unfold maxLen; omega) (by omega) (by omega) ?_
                            intro vv2 v2W ho2 hg2 hr2
                            have hb2 := bgrown hb1 hg2 (own_ge ho1)
                            have hs2 := hb2.size
                            rw [Nat.zero_add, List.nil_append] at ho2
                            obtain ⟨Av2, cv2, rfl, hu2, hv2, hw2⟩ := SlR.of_own ho2
                            clear hw2 hr2
                            refine hK.out _ _ (by exact (HS.out _ hb2)) (fun hHeld => ?_)
                            clear hK K
                            (try simp only [Act.put, List.setIfInBounds_toArray, List.set_cons_zero, List.set_cons_succ, List.getElem_toArray, List.getElem_cons_zero, List.getElem_cons_succ])
                            refine wpAnyH_ready (rs := [6]) (by kernel_rfl) (by simp) ?_
                            refine AllReadyH.cons rfl (fun K hK => ?_) ?_
                            · go_simp
                              refine hK.out _ _ (by exact (HS.out _ (balloc hb2 _))) (fun hHeld => ?_)
                              clear hK K
                              (try simp only [Act.put, List.setIfInBounds_toArray, List.set_cons_zero, List.set_cons_succ, List.getElem_toArray, List.getElem_cons_zero, List.getElem_cons_succ])
                              have hb3 : Below wA.heap.size wA (v2W.alloc (.cells #[.int .i64 a, .slice A23 nm1 c23] 25)) := (balloc hb2 _)
                              have gB3 : Blk (v2W.alloc (.cells #[.int .i64 a, .slice A23 nm1 c23] 25)) v2W.heap.size 25 [.int .i64 a, .slice A23 nm1 c23] := Blk.new v2W 25 [.int .i64 a, .slice A23 nm1 c23]
                              have ho3 := ho2.alloc (.cells #[.int .i64 a, .slice A23 nm1 c23] 25)
                              generalize (v2W.alloc (.cells #[.int .i64 a, .slice A23 nm1 c23] 25)) = v3W at *
                              have hs3 := hb3.size
                              refine wpAnyH_ready (rs := [7]) (by kernel_rfl) (by simp) ?_
                              refine AllReadyH.cons (o := { dst := some 193, op := Op.call { callee := Callee.builtin Builtin.append, args := #[Operand.tmp 190, Operand.tmp 192], argTypes := #[28, 28] }, type := 28, pos := "law.go:158", after := #[{ on := 4, ground := Ground.data }, { on := 6, ground := Ground.data }, { on := 4, ground := Ground.chain }], guard := none }) rfl (fun K hK => ?_) ?_
                              · refine step_append_sl (size := 2) (by rfl) _ _ 28 (by rfl) wA.heap.size 25 j0 (.agg #[.int .i64 0, .slice none 0 0]) 32 Tryz.underlying28 hj0 hz0 hz1 hz2 (by rfl) (by decide) _ _ _ (by rfl) ho3 1 1 ([.int .i64 a, .slice A23 nm1 c23]) (by rfl) (gB3.slr (k := 2) (n := 1) rfl) (Below.refl _ _) (fun u hu => one2 a (A23, nm1, c23) u hu) (by unfold maxLen; omega) (by omega) (by omega) ?_
                                intro vv4 v4W ho4 hg4 hr4
                                have hb4 := bgrown hb3 hg4 (own_ge ho3)
                                have hs4 := hb4.size
                                obtain ⟨Av4, cv4, rfl, hu4, hv4, hw4⟩ := SlR.of_own ho4
                                clear hw4 hr4
                                refine hK.out _ _ (by exact (HS.out _ hb4)) (fun hHeld => ?_)
                                clear hK K
                                (try simp only [Act.put, List.setIfInBounds_toArray, List.set_cons_zero, List.set_cons_succ, List.getElem_toArray, List.getElem_cons_zero, List.getElem_cons_succ])
                                refine wpAnyH_ready (rs := [12]) (by kernel_rfl) (by simp) ?_
                                refine AllReadyH.cons (o := { dst := some 198, op := Op.call { callee := Callee.builtin Builtin.append, args := #[Operand.tmp 193, Operand.tmp 197], argTypes := #[28, 28] }, type := 28, pos := "law.go:158", after := #[{ on := 7, ground := Ground.data }, { on := 11, ground := Ground.data }, { on := 7, ground := Ground.chain }], guard := none }) rfl (fun K hK => ?_) ?_
                                · refine step_append_sl (size := 2) (by rfl) _ _ 28 (by rfl) wA.heap.size 25 j0 (.agg #[.int .i64 0, .slice none 0 0]) 32 Tryz.underlying28 hj0 hz0 hz1 hz2 (by rfl) (by decide) _ _ _ (by rfl) ho4 (2 - a) (cn - (a + 1)) ((es.drop (a + 1)).flatMap cE) (by rfl) (HRw.out _ hb4).2 (Below.refl _ _) (fun u hu => oneE _ u hu) (by unfold maxLen; omega) (by omega) (by omega) ?_
                                  intro vv5 v5W ho5 hg5 hr5
                                  have hb5 := bgrown hb4 hg5 (own_ge ho4)
                                  have hs5 := hb5.size
                                  rw [show a + 1 + (2 - a) = 3 by omega] at ho5
                                  obtain ⟨Av5, cv5, rfl, hu5, hv5, hw5⟩ := SlR.of_own ho5
                                  clear hw5 hr5
                                  refine hK.out _ _ (by exact (HS.out _ hb5)) (fun hHeld => ?_)
                                  clear hK K
                                  (try simp only [Act.put, List.setIfInBounds_toArray, List.set_cons_zero, List.set_cons_succ, List.getElem_toArray, List.getElem_cons_zero, List.getElem_cons_succ])
                                  refine wpAnyH_ready (rs := [13]) (by kernel_rfl) (by simp) ?_
                                  refine AllReadyH.cons rfl (fun K hK => ?_) ?_
                                  · go_simp
                                    refine hK.out _ _ (by exact (HS.out _ hb5)) (fun hHeld => ?_)
                                    clear hK K
                                    (try simp only [Act.put, List.setIfInBounds_toArray, List.set_cons_zero, List.set_cons_succ, List.getElem_toArray, List.getElem_cons_zero, List.getElem_cons_succ])
                                    refine wpAnyH_done (by kernel_rfl) ?_ _
                                    go_wp2_with fail
                                    go_meet
                                    refine ⟨Av5, cv5, rfl, hide (hNA.put hb5 (by omega) hLl ⟨rfl, HNm.out.1, by omega, by omega, hBs.to' hb5⟩ hu5 (by unfold maxLen at hv5; omega) ?_), hb5⟩
                                    rw [← flat_put]
                                    exact (own_sln ho5).1
                                  · exact AllReadyH.nil
                                · exact AllReadyH.nil
                              · exact AllReadyH.nil
                            · exact AllReadyH.nil
                          refine AllReadyH.cons rfl (fun K hK => ?_) ?_
                          · go_simp
                            refine hK.out _ _ (by exact (HS.out _ (balloc hb1 _))) (fun hHeld => ?_)
                            clear hK K
                            (try simp only [Act.put, List.setIfInBounds_toArray, List.set_cons_zero, List.set_cons_succ, List.getElem_toArray, List.getElem_cons_zero, List.getElem_cons_succ])
                            have hb7 : Below wA.heap.size wA (v1W.alloc (.cells #[.int .i64 a, .slice A23 nm1 c23] 25)) := (balloc hb1 _)
                            have gB7 : Blk (v1W.alloc (.cells #[.int .i64 a, .slice A23 nm1 c23] 25)) v1W.heap.size 25 [.int .i64 a, .slice A23 nm1 c23] := Blk.new v1W 25 [.int .i64 a, .slice A23 nm1 c23]
                            have ho7 := ho1.alloc (.cells #[.int .i64 a, .slice A23 nm1 c23] 25)
                            have ol7 : wA.heap.size < v1W.heap.size := own_lt ho1 _ rfl
                            generalize (v1W.alloc (.cells #[.int .i64 a, .slice A23 nm1 c23] 25)) = v7W at *
                            have hs7 := hb7.size
                            refine wpAnyH_ready (rs := [4]) (by kernel_rfl) (by simp) ?_
                            refine AllReadyH.cons (o := { dst := some 190, op := Op.call { callee := Callee.builtin Builtin.append, args := #[Operand.tmp 186, Operand.tmp 189], argTypes := #[28, 28] }, type := 28, pos := "law.go:158", after := #[{ on := 0, ground := Ground.data }, { on := 3, ground := Ground.data }], guard := none }) rfl (fun K hK => ?_) ?_
                            · refine step_append_sl (size := 2) (by rfl) _ _ 28 (by rfl) wA.heap.size 25 j0 (.agg #[.int .i64 0, .slice none 0 0]) 32 Tryz.underlying28 hj0 hz0 hz1 hz2 (by rfl) (by decide) _ _ _ (by rfl) ho7 a cn ((es.take a).flatMap cE) (by rfl) (HRw.out _ hb7).1 (Below.refl _ _) (fun u hu => oneE _ u hu) (by unfold maxLen; omega) (by omega) (by omega) ?_
                              intro vv8 v8W ho8 hg8 hr8
                              have hb8 := bgrown hb7 hg8 (own_ge ho7)
                              have hs8 := hb8.size
                              rw [Nat.zero_add, List.nil_append] at ho8
                              have gB8 := gB7.grown hg8 (fun e => by simp only [Value.ownBlock, Option.some.injEq] at e; omega)
                              obtain ⟨Av8, cv8, rfl, hu8, hv8, hw8⟩ := SlR.of_own ho8
                              clear hw8 hr8
                              refine hK.out _ _ (by exact (HS.out _ hb8)) (fun hHeld => ?_)
                              clear hK K
                              (try simp only [Act.put, List.setIfInBounds_toArray, List.set_cons_zero, List.set_cons_succ, List.getElem_toArray, List.getElem_cons_zero, List.getElem_cons_succ])
                              refine wpAnyH_ready (rs := [7]) (by kernel_rfl) (by simp) ?_
                              refine AllReadyH.cons (o := { dst := some 193, op := Op.call { callee := Callee.builtin Builtin.append, args := #[Operand.tmp 190, Operand.tmp 192], argTypes := #[28, 28] }, type := 28, pos := "law.go:158", after := #[{ on := 4, ground := Ground.data }, { on := 6, ground := Ground.data }, { on := 4, ground := Ground.chain }], guard := none }) rfl (fun K hK => ?_) ?_
                              · refine step_append_sl (size := 2) (by rfl) _ _ 28 (by rfl) wA.heap.size 25 j0 (.agg #[.int .i64 0, .slice none 0 0]) 32 Tryz.underlying28 hj0 hz0 hz1 hz2 (by rfl) (by decide) _ _ _ (by rfl) ho8 1 1 ([.int .i64 a, .slice A23 nm1 c23]) (by rfl) (gB8.slr (k := 2) (n := 1) rfl) (Below.refl _ _) (fun u hu => one2 a (A23, nm1, c23) u hu) (by unfold maxLen; omega) (by omega) (by omega) ?_
                                intro vv9 v9W ho9 hg9 hr9
                                have hb9 := bgrown hb8 hg9 (own_ge ho8)
                                have hs9 := hb9.size
                                obtain ⟨Av9, cv9, rfl, hu9, hv9, hw9⟩ := SlR.of_own ho9
                                clear hw9 hr9
                                refine hK.out _ _ (by exact (HS.out _ hb9)) (fun hHeld => ?_)
                                clear hK K
                                (try simp only [Act.put, List.setIfInBounds_toArray, List.set_cons_zero, List.set_cons_succ, List.getElem_toArray, List.getElem_cons_zero, List.getElem_cons_succ])
                                refine wpAnyH_ready (rs := [12]) (by kernel_rfl) (by simp) ?_
                                refine AllReadyH.cons (o := { dst := some 198, op := Op.call { callee := Callee.builtin Builtin.append, args := #[Operand.tmp 193, Operand.tmp 197], argTypes := #[28, 28] }, type := 28, pos := "law.go:158", after := #[{ on := 7, ground := Ground.data }, { on := 11, ground := Ground.data }, { on := 7, ground := Ground.chain }], guard := none }) rfl (fun K hK => ?_) ?_
                                · refine step_append_sl (size := 2) (by rfl) _ _ 28 (by rfl) wA.heap.size 25 j0 (.agg #[.int .i64 0, .slice none 0 0]) 32 Tryz.underlying28 hj0 hz0 hz1 hz2 (by rfl) (by decide) _ _ _ (by rfl) ho9 (2 - a) (cn - (a + 1)) ((es.drop (a + 1)).flatMap cE) (by rfl) (HRw.out _ hb9).2 (Below.refl _ _) (fun u hu => oneE _ u hu) (by unfold maxLen; omega) (by omega) (by omega) ?_
                                  intro vv10 v10W ho10 hg10 hr10
                                  have hb10 := bgrown hb9 hg10 (own_ge ho9)
                                  have hs10 := hb10.size
                                  rw [show a + 1 + (2 - a) = 3 by omega] at ho10
                                  obtain ⟨Av10, cv10, rfl, hu10, hv10, hw10⟩ := SlR.of_own ho10
                                  clear hw10 hr10
                                  refine hK.out _ _ (by exact (HS.out _ hb10)) (fun hHeld => ?_)
                                  clear hK K
                                  (try simp only [Act.put, List.setIfInBounds_toArray, List.set_cons_zero, List.set_cons_succ, List.getElem_toArray, List.getElem_cons_zero, List.getElem_cons_succ])
                                  refine wpAnyH_ready (rs := [13]) (by kernel_rfl) (by simp) ?_
                                  refine AllReadyH.cons rfl (fun K hK => ?_) ?_
                                  · go_simp
                                    refine hK.out _ _ (by exact (HS.out _ hb10)) (fun hHeld => ?_)
                                    clear hK K
                                    (try simp only [Act.put, List.setIfInBounds_toArray, List.set_cons_zero, List.set_cons_succ, List.getElem_toArray, List.getElem_cons_zero, List.getElem_cons_succ])
                                    refine wpAnyH_done (by kernel_rfl) ?_ _
                                    go_wp2_with fail
                                    go_meet
                                    refine ⟨Av10, cv10, rfl, hide (hNA.put hb10 (by omega) hLl ⟨rfl, HNm.out.1, by omega, by omega, hBs.to' hb10⟩ hu10 (by unfold maxLen at hv10; omega) ?_), hb10⟩
                                    rw [← flat_put]
                                    exact (own_sln ho10).1
                                  · exact AllReadyH.nil
                                · exact AllReadyH.nil
                              · exact AllReadyH.nil
                            · exact AllReadyH.nil
                          · exact AllReadyH.nil
                        refine AllReadyH.cons rfl (fun K hK => ?_) ?_
                        · go_simp
                          refine hK.out _ _ (by exact (HS.out _ (bdrew (balloc (Below.refl _ _) _)))) (fun hHeld => ?_)
                          clear hK K
                          (try simp only [Act.put, List.setIfInBounds_toArray, List.set_cons_zero, List.set_cons_succ, List.getElem_toArray, List.getElem_cons_zero, List.getElem_cons_succ])
                          have hb12 : Below wA.heap.size wA (wA.alloc (.cells #[.int .i64 a, .slice A23 nm1 c23] 25)).drew := (bdrew (balloc (Below.refl _ _) _))
                          have gB12 : Blk (wA.alloc (.cells #[.int .i64 a, .slice A23 nm1 c23] 25)).drew wA.heap.size 25 [.int .i64 a, .slice A23 nm1 c23] := Blk.new wA 25 [.int .i64 a, .slice A23 nm1 c23]
                          generalize (wA.alloc (.cells #[.int .i64 a, .slice A23 nm1 c23] 25)).drew = v12W at *
                          have hs12 := hb12.size
                          refine wpAnyH_ready (rs := [0]) (by kernel_rfl) (by simp) ?_
                          refine AllReadyH.cons rfl (fun K hK => ?_) ?_
                          · go_simp
                            refine hK.out _ _ (by exact (HS.out _ (balloc hb12 _))) (fun hHeld => ?_)
                            clear hK K
                            (try simp only [Act.put, List.setIfInBounds_toArray, List.set_cons_zero, List.set_cons_succ, List.getElem_toArray, List.getElem_cons_zero, List.getElem_cons_succ])
                            have hb13 : Below wA.heap.size wA (v12W.alloc (.cells #[] 25)) := (balloc hb12 _)
                            have ho13 : (v12W.alloc (.cells #[] 25)).ownsRow wA.heap.size 25 2 (.slice (some ⟨v12W.heap.size, 0, none⟩) 0 0) 0 [] := own_emptyP v12W _ (by omega)
                            have gB13 : Blk (v12W.alloc (.cells #[] 25)) wA.heap.size 25 [.int .i64 a, .slice A23 nm1 c23] := gB12.alloc _
                            have gl13 := gB12.lt
                            generalize (v12W.alloc (.cells #[] 25)) = v13W at *
                            have hs13 := hb13.size
                            refine wpAnyH_ready (rs := [4]) (by kernel_rfl) (by simp) ?_
                            refine AllReadyH.cons (o := { dst := some 190, op := Op.call { callee := Callee.builtin Builtin.append, args := #[Operand.tmp 186, Operand.tmp 189], argTypes := #[28, 28] }, type := 28, pos := "law.go:158", after := #[{ on := 0, ground := Ground.data }, { on := 3, ground := Ground.data }], guard := none }) rfl (fun K hK => ?_) ?_
                            · refine step_append_sl (size := 2) (by rfl) _ _ 28 (by rfl) wA.heap.size 25 j0 (.agg #[.int .i64 0, .slice none 0 0]) 32 Tryz.underlying28 hj0 hz0 hz1 hz2 (by rfl) (by decide) _ _ _ (by rfl) ho13 a cn ((es.take a).flatMap cE) (by rfl) (HRw.out _ hb13).1 (Below.refl _ _) (fun u hu => oneE _ u hu) (by unfold maxLen; omega) (by omega) (by omega) ?_
                              intro vv14 v14W ho14 hg14 hr14
                              have hb14 := bgrown hb13 hg14 (own_ge ho13)
                              have hs14 := hb14.size
                              rw [Nat.zero_add, List.nil_append] at ho14
                              have gB14 := gB13.grown hg14 (fun e => by simp only [Value.ownBlock, Option.some.injEq] at e; omega)
                              obtain ⟨Av14, cv14, rfl, hu14, hv14, hw14⟩ := SlR.of_own ho14
                              clear hw14 hr14
                              refine hK.out _ _ (by exact (HS.out _ hb14)) (fun hHeld => ?_)
                              clear hK K
                              (try simp only [Act.put, List.setIfInBounds_toArray, List.set_cons_zero, List.set_cons_succ, List.getElem_toArray, List.getElem_cons_zero, List.getElem_cons_succ])
                              refine wpAnyH_ready (rs := [7]) (by kernel_rfl) (by simp) ?_
                              refine AllReadyH.cons (o := { dst := some 193, op := Op.call { callee := Callee.builtin Builtin.append, args := #[Operand.tmp 190, Operand.tmp 192], argTypes := #[28, 28] }, type := 28, pos := "law.go:158", after := #[{ on := 4, ground := Ground.data }, { on := 6, ground := Ground.data }, { on := 4, ground := Ground.chain }], guard := none }) rfl (fun K hK => ?_) ?_
                              · refine step_append_sl (size := 2) (by rfl) _ _ 28 (by rfl) wA.heap.size 25 j0 (.agg #[.int .i64 0, .slice none 0 0]) 32 Tryz.underlying28 hj0 hz0 hz1 hz2 (by rfl) (by decide) _ _ _ (by rfl) ho14 1 1 ([.int .i64 a, .slice A23 nm1 c23]) (by rfl) (gB14.slr (k := 2) (n := 1) rfl) (Below.refl _ _) (fun u hu => one2 a (A23, nm1, c23) u hu) (by unfold maxLen; omega) (by omega) (by omega) ?_
                                intro vv15 v15W ho15 hg15 hr15
                                have hb15 := bgrown hb14 hg15 (own_ge ho14)
                                have hs15 := hb15.size
                                obtain ⟨Av15, cv15, rfl, hu15, hv15, hw15⟩ := SlR.of_own ho15
                                clear hw15 hr15
                                refine hK.out _ _ (by exact (HS.out _ hb15)) (fun hHeld => ?_)
                                clear hK K
                                (try simp only [Act.put, List.setIfInBounds_toArray, List.set_cons_zero, List.set_cons_succ, List.getElem_toArray, List.getElem_cons_zero, List.getElem_cons_succ])
                                refine wpAnyH_ready (rs := [12]) (by kernel_rfl) (by simp) ?_
                                refine AllReadyH.cons (o := { dst := some 198, op := Op.call { callee := Callee.builtin Builtin.append, args := #[Operand.tmp 193, Operand.tmp 197], argTypes := #[28, 28] }, type := 28, pos := "law.go:158", after := #[{ on := 7, ground := Ground.data }, { on := 11, ground := Ground.data }, { on := 7, ground := Ground.chain }], guard := none }) rfl (fun K hK => ?_) ?_
                                · refine step_append_sl (size := 2) (by rfl) _ _ 28 (by rfl) wA.heap.size 25 j0 (.agg #[.int .i64 0, .slice none 0 0]) 32 Tryz.underlying28 hj0 hz0 hz1 hz2 (by rfl) (by decide) _ _ _ (by rfl) ho15 (2 - a) (cn - (a + 1)) ((es.drop (a + 1)).flatMap cE) (by rfl) (HRw.out _ hb15).2 (Below.refl _ _) (fun u hu => oneE _ u hu) (by unfold maxLen; omega) (by omega) (by omega) ?_
                                  intro vv16 v16W ho16 hg16 hr16
                                  have hb16 := bgrown hb15 hg16 (own_ge ho15)
                                  have hs16 := hb16.size
                                  rw [show a + 1 + (2 - a) = 3 by omega] at ho16
                                  obtain ⟨Av16, cv16, rfl, hu16, hv16, hw16⟩ := SlR.of_own ho16
                                  clear hw16 hr16
                                  refine hK.out _ _ (by exact (HS.out _ hb16)) (fun hHeld => ?_)
                                  clear hK K
                                  (try simp only [Act.put, List.setIfInBounds_toArray, List.set_cons_zero, List.set_cons_succ, List.getElem_toArray, List.getElem_cons_zero, List.getElem_cons_succ])
                                  refine wpAnyH_ready (rs := [13]) (by kernel_rfl) (by simp) ?_
                                  refine AllReadyH.cons rfl (fun K hK => ?_) ?_
                                  · go_simp
                                    refine hK.out _ _ (by exact (HS.out _ hb16)) (fun hHeld => ?_)
                                    clear hK K
                                    (try simp only [Act.put, List.setIfInBounds_toArray, List.set_cons_zero, List.set_cons_succ, List.getElem_toArray, List.getElem_cons_zero, List.getElem_cons_succ])
                                    refine wpAnyH_done (by kernel_rfl) ?_ _
                                    go_wp2_with fail
                                    go_meet
                                    refine ⟨Av16, cv16, rfl, hide (hNA.put hb16 (by omega) hLl ⟨rfl, HNm.out.1, by omega, by omega, hBs.to' hb16⟩ hu16 (by unfold maxLen at hv16; omega) ?_), hb16⟩
                                    rw [← flat_put]
                                    exact (own_sln ho16).1
                                  · exact AllReadyH.nil
                                · exact AllReadyH.nil
                              · exact AllReadyH.nil
                            · exact AllReadyH.nil
                          · exact AllReadyH.nil
                        · exact AllReadyH.nil
                      case rest =>
                        obtain ⟨wB, rfl⟩ : ∃ wB, wB = wc := ⟨_, rfl⟩
                        obtain ⟨A5, c5, rfl, hN5, hb5⟩ := hcut
                        clear HS HRw hNA hBs hto hfr HAW hbox
                        obtain ⟨es5, hes5⟩ : ∃ e, es.set a ⟨a, A23, nm1, c23⟩ = e := ⟨_, rfl⟩
                        obtain ⟨L5, hL5⟩ : ∃ e, L.set a m1 = e := ⟨_, rfl⟩
                        rw [hes5, hL5] at hN5
                        rw [hL5] at HM
                        have hHb := (hb5 : Below wA.heap.size wA wB)
                        have HB5 := hide (bthen HbA.out hb5)
                        have H23 : Hid (∀ W, Below wB.heap.size wB W → Bx W b23 a A23 nm1 c23 m1) := hide (fun W h => HB23.out.to (bthen hHb h))
                        have hL5l : L5.length = 3 := by rw [← hL5, List.length_set]; exact hoi.out.len
                        have hl5 : b23 < wB.heap.size := (H23.out wB (Below.refl _ _)).cells.2.2
                        have hcn5 := hN5.out.hc
                        have hcn5' := hN5.out.hc'
                        obtain ⟨g5, o5, rfl, hg5⟩ := hN5.out.some
                        clear hb5 hHb hL5 hes5 HB23 x0 x1 x2
                        go_upto_region 28 with (fail)
                        obtain ⟨C3, hC3⟩ : ∃ C, C = (decide (k < M) && decide (k < 8)) := ⟨_, rfl⟩
                        have HC3 := hide hC3
                        clear hC3
                        go_cut [206] from 199 to 206 (fun v wx => v = .bool C3 ∧ wx = wB)
                        case first =>
                          by_cases h1 : k < M
                          · have h1i : (k : Int) < (M : Int) := by omega
                            by_cases h2 : k < 8
                            · have h2i : (k : Int) < 8 := by omega
                              have hCt : C3 = true := by rw [HC3.out, decide_eq_true h1, decide_eq_true h2]; rfl
                              subst hCt
                              go_wp2_with fail
                              go_meet
                              exact ⟨rfl, rfl⟩
                            · have h2i : ¬ (k : Int) < 8 := by omega
                              have hCt : C3 = false := by rw [HC3.out, decide_eq_true h1, decide_eq_false h2]; rfl
                              subst hCt
                              go_wp2_with fail
                              go_meet
                              exact ⟨rfl, rfl⟩
                          · have h1i : ¬ (k : Int) < (M : Int) := by omega
                            have hCt : C3 = false := by rw [HC3.out, decide_eq_false h1]; rfl
                            subst hCt
                            go_wp2_with fail
                            go_meet
                            exact ⟨rfl, rfl⟩
                        case rest =>
                          obtain ⟨rfl, hwc⟩ := hcut
                          obtain rfl := hwc.symm
                          cases C3 with
                          | true =>
                            have hkM : k < M := by
                              have := HC3.out.symm
                              rw [Bool.and_eq_true, decide_eq_true_eq, decide_eq_true_eq] at this
                              exact this.1
                            have HOn := hide (HM.out.2.2.1 hkM)
                            go_wp2_with fail
                            refine ⟨⟨k + 1, _, _, es5, L5, by omega, rfl, rfl, hN5, HOn, bthen HW.out HB5.out⟩, ?_⟩
                            show 14 - ((k : Int) + 1).toNat < 14 - ((k : Nat) : Int).toNat
                            omega
                          | false =>
                            obtain ⟨Aa5, hAa⟩ : ∃ A, (es5[a]!).A = A := ⟨_, rfl⟩
                            obtain ⟨na5, hna⟩ : ∃ A, (es5[a]!).n = A := ⟨_, rfl⟩
                            obtain ⟨ca5, hca⟩ : ∃ A, (es5[a]!).c = A := ⟨_, rfl⟩
                            obtain ⟨Ab5, hAb⟩ : ∃ A, (es5[b]!).A = A := ⟨_, rfl⟩
                            obtain ⟨nb5, hnb⟩ : ∃ A, (es5[b]!).n = A := ⟨_, rfl⟩
                            obtain ⟨cb5, hcb⟩ : ∃ A, (es5[b]!).c = A := ⟨_, rfl⟩
                            have hna5 : na5 ≤ 9223372036854775807 := by rw [← hna]; have := (hN5.out.ok a ha3).hnc; have := (hN5.out.ok a ha3).hc; omega
                            have hnb5 : nb5 ≤ 9223372036854775807 := by rw [← hnb]; have := (hN5.out.ok b hb3).hnc; have := (hN5.out.ok b hb3).hc; omega
                            have HS : Hid (∀ W, SN wo g5 o5 c5 es5 L5 b23 W → W.cell? ⟨g5, o5 + b * 2, none⟩ = some (.int .i64 b) ∧ W.cell? ⟨g5, o5 + b * 2 + 1, none⟩ = some (.slice Ab5 nb5 cb5) ∧ W.cell? ⟨g5, o5 + a * 2, none⟩ = some (.int .i64 a) ∧ W.cell? ⟨g5, o5 + a * 2 + 1, none⟩ = some (.slice Aa5 na5 ca5) ∧ SN wo g5 o5 c5 es5 L5 b23 W) := hide (fun W h => by
                              obtain ⟨g1, g2⟩ := h.1.cells ha3
                              obtain ⟨g3, g4⟩ := h.1.cells hb3
                              rw [hAa, hna, hca] at g2
                              rw [hAb, hnb, hcb] at g4
                              exact ⟨g3, g4, g1, g2, h⟩)
                            have HGv : Hid (∀ W, SN wo g5 o5 c5 es5 L5 b23 W → Calls Tryz.prog 26 #[.agg #[.int .i64 b, .slice Ab5 nb5 cb5], .agg #[.int .i64 a, .slice Aa5 na5 ca5]] W (RepPost b (some m2) W)) := hide (fun W h => by
                              have h1 := (h.1.ok a ha3).slr
                              have h2 := (h.1.ok b hb3).slr
                              rw [hAa, hna] at h1
                              rw [hAb, hnb] at h2
                              have := c_pMerge b Ab5 nb5 cb5 L5[b]! a Aa5 na5 ca5 L5[a]! W (HQ.out W (bthen HW.out h.2.1)).2.1 hnb5 hna5 h2 h1
                              rw [HM.out.2.2.2.1] at this
                              exact this)
                            have hSN : SN wo g5 o5 c5 es5 L5 b23 wB := ⟨hN5.out, HB5.out, _, _, (H23.out wB (Below.refl _ _)).blk⟩
                            have HSN := hide hSN
                            clear hSN
                            clear hAa hna hca hAb hnb hcb
                            go_upto_region 29 with (fail)
                            go_cut [24] from 207 to 218 (fun u wx => u = .int .i64 0 ∧ ∃ A29 c29, Hid (Bx wx b23 b A29 nm2 c29 m2) ∧ Hid (Now wx (some ⟨g5, o5, none⟩) c5 es5 L5) ∧ Below wo.heap.size wo wx)
                            case first =>
                              go_region_held3 (fun W => W.cell? ⟨g5, o5 + b * 2, none⟩ = some (.int .i64 b) ∧ W.cell? ⟨g5, o5 + b * 2 + 1, none⟩ = some (.slice Ab5 nb5 cb5) ∧ W.cell? ⟨g5, o5 + a * 2, none⟩ = some (.int .i64 a) ∧ W.cell? ⟨g5, o5 + a * 2 + 1, none⟩ = some (.slice Aa5 na5 ca5) ∧ SN wo g5 o5 c5 es5 L5 b23 W)
                                (first | exact HS.out _ HSN.out | exact HS.out _ (HSN.out.to (bdrew (Below.refl _ _))) | exact HS.out _ h8N | exact HS.out _ (h8N.store hle23 _ _) | (go_split_ands; first | exact HS.out _ (by assumption) | exact HS.out _ (SN.to (by assumption) (by assumption))))
                                ((go_split_ands; go_at_call 26; refine (HGv.out _ (by assumption)).mono ?_; rintro e w8 hp; obtain ⟨hb8, A8, c8, rfl, hk1, hk2, hsn⟩ := RepPost.some' HNm.out.2 hp; clear hp; have h8N : SN wo g5 o5 c5 es5 L5 b23 w8 := SN.to (by assumption) hb8; obtain ⟨xx, yy, gB⟩ := h8N.2.2; obtain ⟨q0, q1, q2, q3⟩ := gB.all2; have q4 := gB.lt))
                              all_goals
                                go_wp2_with fail
                                go_meet
                                exact ⟨rfl, A8, c8, hide ⟨(gB.set 0 (.int .i64 b)).set 1 (.slice A8 nm2 c8), (((hsn.1.to' (Below.refl _ _)).box (by omega) gB 0 (.int .i64 b)).box (by omega) (gB.set 0 (.int .i64 b)) 1 (.slice A8 nm2 c8)).more (by simp), hk1, hk2⟩, hide (h8N.store hle23 _ _).1, (h8N.store hle23 _ _).2.1⟩
                            case rest =>
                              obtain ⟨wC, rfl⟩ : ∃ wC, wC = wc := ⟨_, rfl⟩
                              obtain ⟨rfl, A29, c29, hB29, hN29, hbC⟩ := hcut
                              clear HS HGv H23 hN5 hg5 hl5
                              have hle29 := hB29.out.cells.2.2
                              have HbC := hide hbC
                              obtain ⟨x0, x1, x2⟩ := hB29.out.cells
                              clear hbC
                              go_upto_region 32 with (fail)
                              have hNA := hN29.out
                              have hBs := hB29.out.slr
                              have hBnc := hB29.out.hnc
                              have hBc := hB29.out.hc
                              have hLl := hL5l
                              have hbox : b23 < wC.heap.size := hB29.out.cells.2.2
                              have hcn3 := hNA.hc
                              have hcnm := hNA.hc'
                              obtain ⟨-, hto⟩ := cut_to hNA.row hNA.hc (a := b) (by omega)
                              obtain ⟨Af, -, hfr⟩ := cut_from hNA.row hNA.hc (a := b) (by omega)
                              have HRw : Hid (∀ W, Below wC.heap.size wC W → SlR W W.heap.size 2 (some ⟨g5, o5, none⟩) b ((es5.take b).flatMap cE) ∧ SlR W W.heap.size 2 Af (2 - b) ((es5.drop (b + 1)).flatMap cE)) := hide (fun W h => ⟨(cut_to (hNA.to h).row hNA.hc (a := b) (by omega)).1, by
                                obtain ⟨A2, h1, h2⟩ := cut_from (hNA.to h).row hNA.hc (a := b) (by omega)
                                have := (hfr W).symm.trans (h2 W)
                                simp only [Result.ok.injEq, Value.slice.injEq, and_true] at this
                                rw [this]; exact h1⟩)
                              have HS : Hid (∀ W, Below wC.heap.size wC W → W.cell? ⟨b23, 0, none⟩ = some (.int .i64 b) ∧ W.cell? ⟨b23, 1, none⟩ = some (.slice A29 nm2 c29)) := hide (fun W h => ⟨(hB29.out.to h).cells.1, (hB29.out.to h).cells.2.1⟩)
                              have HAW := hide (show wrap64 ((b : Int) + 1) = (b : Int) + 1 ∧ IntKind.i64.wrap ((b : Int) + 1) = (b : Int) + 1 from ⟨Go.IntWalk.wrap64_in _ (by omega), i64w (by omega) (by omega)⟩)
                              obtain ⟨j0, hj0, hz0, hz1, hz2⟩ := info_parts Tryz.infoRep
                              refine wp_region_held_drew (S := fun W => W.cell? ⟨b23, 0, none⟩ = some (.int .i64 b) ∧ W.cell? ⟨b23, 1, none⟩ = some (.slice A29 nm2 c29)) (by kernel_rfl) (HS.out _ (bdrew (Below.refl _ _))) (fun hHeld => ?_)
                              obtain ⟨haw, haw2⟩ := HAW.out
                              refine wpAnyH_take (i := 1) (v := ?_) rfl (by kernel_rfl) (by kernel_rfl) (by kernel_rfl) (fun _ _ _ h => h) (Or.inl ⟨by rfl, ?hy9⟩) (by assumption) ?rs9
                              case hy9 => (intro w hSw; (try dsimp only at hSw); go_simp; try (with_reducible rfl))
                              (try simp only [Act.put, List.setIfInBounds_toArray, List.set_cons_zero, List.set_cons_succ, List.getElem_toArray, List.getElem_cons_zero, List.getElem_cons_succ])
                              refine wpAnyH_take (i := 2) (v := ?_) rfl (by kernel_rfl) (by kernel_rfl) (by kernel_rfl) (fun _ _ _ h => h) (Or.inl ⟨by rfl, ?hy10⟩) (by assumption) ?rs10
                              case hy10 => (intro w hSw; (try dsimp only at hSw); go_simp; try (with_reducible rfl))
                              (try simp only [Act.put, List.setIfInBounds_toArray, List.set_cons_zero, List.set_cons_succ, List.getElem_toArray, List.getElem_cons_zero, List.getElem_cons_succ])
                              refine wpAnyH_take (i := 3) (v := ?_) rfl (by kernel_rfl) (by kernel_rfl) (by kernel_rfl) (fun _ _ _ h => h) (Or.inl ⟨by rfl, ?hy11⟩) (by assumption) ?rs11
                              case hy11 => (intro w hSw; (try dsimp only at hSw); go_simp; try (with_reducible rfl))
                              (try simp only [Act.put, List.setIfInBounds_toArray, List.set_cons_zero, List.set_cons_succ, List.getElem_toArray, List.getElem_cons_zero, List.getElem_cons_succ])
                              refine wpAnyH_take (i := 5) (v := ?_) rfl (by kernel_rfl) (by kernel_rfl) (by kernel_rfl) (fun _ _ _ h => h) (Or.inl ⟨by rfl, ?hy12⟩) (by assumption) ?rs12
                              case hy12 => (intro w hSw; (try dsimp only at hSw); go_simp; try (with_reducible rfl))
                              (try simp only [Act.put, List.setIfInBounds_toArray, List.set_cons_zero, List.set_cons_succ, List.getElem_toArray, List.getElem_cons_zero, List.getElem_cons_succ])
                              refine wpAnyH_take (i := 8) (v := ?_) rfl (by kernel_rfl) (by kernel_rfl) (by kernel_rfl) (fun _ _ _ h => h) (Or.inl ⟨by rfl, ?hy13⟩) (by assumption) ?rs13
                              case hy13 => (intro w hSw; (try dsimp only at hSw); go_simp; try (with_reducible rfl))
                              (try simp only [Act.put, List.setIfInBounds_toArray, List.set_cons_zero, List.set_cons_succ, List.getElem_toArray, List.getElem_cons_zero, List.getElem_cons_succ])
                              refine wpAnyH_take (i := 9) (v := ?_) rfl (by kernel_rfl) (by kernel_rfl) (by kernel_rfl) (fun _ _ _ h => h) (Or.inl ⟨by rfl, ?hy14⟩) (by assumption) ?rs14
                              case hy14 => (intro w hSw; (try dsimp only at hSw); go_simp; try (with_reducible rfl))
                              (try simp only [Act.put, List.setIfInBounds_toArray, List.set_cons_zero, List.set_cons_succ, List.getElem_toArray, List.getElem_cons_zero, List.getElem_cons_succ])
                              refine wpAnyH_take (i := 10) (v := ?_) rfl (by kernel_rfl) (by kernel_rfl) (by kernel_rfl) (fun _ _ _ h => h) (Or.inl ⟨by rfl, ?hy15⟩) (by assumption) ?rs15
                              case hy15 => (intro w hSw; (try dsimp only at hSw); go_simp; try (with_reducible rfl))
                              (try simp only [Act.put, List.setIfInBounds_toArray, List.set_cons_zero, List.set_cons_succ, List.getElem_toArray, List.getElem_cons_zero, List.getElem_cons_succ])
                              refine wpAnyH_take (i := 11) (v := ?_) rfl (by kernel_rfl) (by kernel_rfl) (by kernel_rfl) (fun _ _ _ h => h) (Or.inl ⟨by rfl, ?hy16⟩) (by assumption) ?rs16
                              case hy16 => (intro w hSw; (try dsimp only at hSw); go_simp; try (with_reducible rfl))
                              (try simp only [Act.put, List.setIfInBounds_toArray, List.set_cons_zero, List.set_cons_succ, List.getElem_toArray, List.getElem_cons_zero, List.getElem_cons_succ])
                              clear haw haw2
                              refine wpAnyH_ready (rs := [0, 6]) (by kernel_rfl) (by simp) ?_
                              refine AllReadyH.cons rfl (fun K hK => ?_) ?_
                              · go_simp
                                refine hK.out _ _ (by exact (HS.out _ (bdrew (balloc (Below.refl _ _) _)))) (fun hHeld => ?_)
                                clear hK K
                                (try simp only [Act.put, List.setIfInBounds_toArray, List.set_cons_zero, List.set_cons_succ, List.getElem_toArray, List.getElem_cons_zero, List.getElem_cons_succ])
                                have hb1 : Below wC.heap.size wC (wC.alloc (.cells #[] 25)).drew := (bdrew (balloc (Below.refl _ _) _))
                                have ho1 : (wC.alloc (.cells #[] 25)).drew.ownsRow wC.heap.size 25 2 (.slice (some ⟨wC.heap.size, 0, none⟩) 0 0) 0 [] := own_emptyP wC _ (by omega)
                                generalize (wC.alloc (.cells #[] 25)).drew = v1W at *
                                have hs1 := hb1.size
                                refine wpAnyH_ready (rs := [4, 6]) (by kernel_rfl) (by simp) ?_
                                refine AllReadyH.cons (o := { dst := some 225, op := Op.call { callee := Callee.builtin Builtin.append, args := #[Operand.tmp 221, Operand.tmp 224], argTypes := #[28, 28] }, type := 28, pos := "law.go:166", after := #[{ on := 0, ground := Ground.data }, { on := 3, ground := Ground.data }], guard := none }) rfl (fun K hK => ?_) ?_
                                · refine step_append_sl (size := 2) (by rfl) _ _ 28 (by rfl) wC.heap.size 25 j0 (.agg #[.int .i64 0, .slice none 0 0]) 32 Tryz.underlying28 hj0 hz0 hz1 hz2 (by rfl) (by decide) _ _ _ (by rfl) ho1 b c5 ((es5.take b).flatMap cE) (by rfl) (HRw.out _ hb1).1 (Below.refl _ _) (fun u hu => oneE _ u hu) (by unfold maxLen; omega) (by omega) (by omega) ?_
                                  intro vv2 v2W ho2 hg2 hr2
                                  have hb2 := bgrown hb1 hg2 (own_ge ho1)
                                  have hs2 := hb2.size
                                  rw [Nat.zero_add, List.nil_append] at ho2
                                  obtain ⟨Av2, cv2, rfl, hu2, hv2, hw2⟩ := SlR.of_own ho2
                                  clear hw2 hr2
                                  refine hK.out _ _ (by exact (HS.out _ hb2)) (fun hHeld => ?_)
                                  clear hK K
                                  (try simp only [Act.put, List.setIfInBounds_toArray, List.set_cons_zero, List.set_cons_succ, List.getElem_toArray, List.getElem_cons_zero, List.getElem_cons_succ])
                                  refine wpAnyH_ready (rs := [6]) (by kernel_rfl) (by simp) ?_
                                  refine AllReadyH.cons rfl (fun K hK => ?_) ?_
                                  · go_simp
                                    refine hK.out _ _ (by exact (HS.out _ (balloc hb2 _))) (fun hHeld => ?_)
                                    clear hK K
                                    (try simp only [Act.put, List.setIfInBounds_toArray, List.set_cons_zero, List.set_cons_succ, List.getElem_toArray, List.getElem_cons_zero, List.getElem_cons_succ])
                                    have hb3 : Below wC.heap.size wC (v2W.alloc (.cells #[.int .i64 b, .slice A29 nm2 c29] 25)) := (balloc hb2 _)
                                    have gB3 : Blk (v2W.alloc (.cells #[.int .i64 b, .slice A29 nm2 c29] 25)) v2W.heap.size 25 [.int .i64 b, .slice A29 nm2 c29] := Blk.new v2W 25 [.int .i64 b, .slice A29 nm2 c29]
                                    have ho3 := ho2.alloc (.cells #[.int .i64 b, .slice A29 nm2 c29] 25)
                                    generalize (v2W.alloc (.cells #[.int .i64 b, .slice A29 nm2 c29] 25)) = v3W at *
                                    have hs3 := hb3.size
                                    refine wpAnyH_ready (rs := [7]) (by kernel_rfl) (by simp) ?_
                                    refine AllReadyH.cons (o := { dst := some 228, op := Op.call { callee := Callee.builtin Builtin.append, args := #[Operand.tmp 225, Operand.tmp 227], argTypes := #[28, 28] }, type := 28, pos := "law.go:166", after := #[{ on := 4, ground := Ground.data }, { on := 6, ground := Ground.data }, { on := 4, ground := Ground.chain }], guard := none }) rfl (fun K hK => ?_) ?_
                                    · refine step_append_sl (size := 2) (by rfl) _ _ 28 (by rfl) wC.heap.size 25 j0 (.agg #[.int .i64 0, .slice none 0 0]) 32 Tryz.underlying28 hj0 hz0 hz1 hz2 (by rfl) (by decide) _ _ _ (by rfl) ho3 1 1 ([.int .i64 b, .slice A29 nm2 c29]) (by rfl) (gB3.slr (k := 2) (n := 1) rfl) (Below.refl _ _) (fun u hu => one2 b (A29, nm2, c29) u hu) (by unfold maxLen; omega) (by omega) (by omega) ?_
                                      intro vv4 v4W ho4 hg4 hr4
                                      have hb4 := bgrown hb3 hg4 (own_ge ho3)
                                      have hs4 := hb4.size
                                      obtain ⟨Av4, cv4, rfl, hu4, hv4, hw4⟩ := SlR.of_own ho4
                                      clear hw4 hr4
                                      refine hK.out _ _ (by exact (HS.out _ hb4)) (fun hHeld => ?_)
                                      clear hK K
                                      (try simp only [Act.put, List.setIfInBounds_toArray, List.set_cons_zero, List.set_cons_succ, List.getElem_toArray, List.getElem_cons_zero, List.getElem_cons_succ])
                                      refine wpAnyH_ready (rs := [12]) (by kernel_rfl) (by simp) ?_
                                      refine AllReadyH.cons (o := { dst := some 233, op := Op.call { callee := Callee.builtin Builtin.append, args := #[Operand.tmp 228, Operand.tmp 232], argTypes := #[28, 28] }, type := 28, pos := "law.go:166", after := #[{ on := 7, ground := Ground.data }, { on := 11, ground := Ground.data }, { on := 7, ground := Ground.chain }], guard := none }) rfl (fun K hK => ?_) ?_
                                      · refine step_append_sl (size := 2) (by rfl) _ _ 28 (by rfl) wC.heap.size 25 j0 (.agg #[.int .i64 0, .slice none 0 0]) 32 Tryz.underlying28 hj0 hz0 hz1 hz2 (by rfl) (by decide) _ _ _ (by rfl) ho4 (2 - b) (c5 - (b + 1)) ((es5.drop (b + 1)).flatMap cE) (by rfl) (HRw.out _ hb4).2 (Below.refl _ _) (fun u hu => oneE _ u hu) (by unfold maxLen; omega) (by omega) (by omega) ?_
                                        intro vv5 v5W ho5 hg5 hr5
                                        have hb5 := bgrown hb4 hg5 (own_ge ho4)
                                        have hs5 := hb5.size
                                        rw [show b + 1 + (2 - b) = 3 by omega] at ho5
                                        obtain ⟨Av5, cv5, rfl, hu5, hv5, hw5⟩ := SlR.of_own ho5
                                        clear hw5 hr5
                                        refine hK.out _ _ (by exact (HS.out _ hb5)) (fun hHeld => ?_)
                                        clear hK K
                                        (try simp only [Act.put, List.setIfInBounds_toArray, List.set_cons_zero, List.set_cons_succ, List.getElem_toArray, List.getElem_cons_zero, List.getElem_cons_succ])
                                        refine wpAnyH_ready (rs := [13]) (by kernel_rfl) (by simp) ?_
                                        refine AllReadyH.cons rfl (fun K hK => ?_) ?_
                                        · go_simp
                                          refine hK.out _ _ (by exact (HS.out _ hb5)) (fun hHeld => ?_)
                                          clear hK K
                                          (try simp only [Act.put, List.setIfInBounds_toArray, List.set_cons_zero, List.set_cons_succ, List.getElem_toArray, List.getElem_cons_zero, List.getElem_cons_succ])
                                          refine wpAnyH_done (by kernel_rfl) ?_ _
                                          go_wp2_with fail
                                          have HOn := hide HM.out.2.2.2.2.2
                                          refine ⟨⟨k + 1, Av5, cv5, es5.set b ⟨b, A29, nm2, c29⟩, L5.set b m2, by omega, rfl, rfl, hide (hNA.put hb5 (by omega) hLl ⟨rfl, HNm.out.2, by omega, by omega, hBs.to' hb5⟩ hu5 (by unfold maxLen at hv5; omega) ?_), HOn, bthen HW.out (bthen HbC.out hb5)⟩, ?_⟩
                                          · rw [← flat_put]
                                            exact (own_sln ho5).1
                                          · show 14 - ((k : Int) + 1).toNat < 14 - ((k : Nat) : Int).toNat
                                            omega
                                        · exact AllReadyH.nil
                                      · exact AllReadyH.nil
                                    · exact AllReadyH.nil
                                  · exact AllReadyH.nil
                                refine AllReadyH.cons rfl (fun K hK => ?_) ?_
                                · go_simp
                                  refine hK.out _ _ (by exact (HS.out _ (balloc hb1 _))) (fun hHeld => ?_)
                                  clear hK K
                                  (try simp only [Act.put, List.setIfInBounds_toArray, List.set_cons_zero, List.set_cons_succ, List.getElem_toArray, List.getElem_cons_zero, List.getElem_cons_succ])
                                  have hb7 : Below wC.heap.size wC (v1W.alloc (.cells #[.int .i64 b, .slice A29 nm2 c29] 25)) := (balloc hb1 _)
                                  have gB7 : Blk (v1W.alloc (.cells #[.int .i64 b, .slice A29 nm2 c29] 25)) v1W.heap.size 25 [.int .i64 b, .slice A29 nm2 c29] := Blk.new v1W 25 [.int .i64 b, .slice A29 nm2 c29]
                                  have ho7 := ho1.alloc (.cells #[.int .i64 b, .slice A29 nm2 c29] 25)
                                  have ol7 : wC.heap.size < v1W.heap.size := own_lt ho1 _ rfl
                                  generalize (v1W.alloc (.cells #[.int .i64 b, .slice A29 nm2 c29] 25)) = v7W at *
                                  have hs7 := hb7.size
                                  refine wpAnyH_ready (rs := [4]) (by kernel_rfl) (by simp) ?_
                                  refine AllReadyH.cons (o := { dst := some 225, op := Op.call { callee := Callee.builtin Builtin.append, args := #[Operand.tmp 221, Operand.tmp 224], argTypes := #[28, 28] }, type := 28, pos := "law.go:166", after := #[{ on := 0, ground := Ground.data }, { on := 3, ground := Ground.data }], guard := none }) rfl (fun K hK => ?_) ?_
                                  · refine step_append_sl (size := 2) (by rfl) _ _ 28 (by rfl) wC.heap.size 25 j0 (.agg #[.int .i64 0, .slice none 0 0]) 32 Tryz.underlying28 hj0 hz0 hz1 hz2 (by rfl) (by decide) _ _ _ (by rfl) ho7 b c5 ((es5.take b).flatMap cE) (by rfl) (HRw.out _ hb7).1 (Below.refl _ _) (fun u hu => oneE _ u hu) (by unfold maxLen; omega) (by omega) (by omega) ?_
                                    intro vv8 v8W ho8 hg8 hr8
                                    have hb8 := bgrown hb7 hg8 (own_ge ho7)
                                    have hs8 := hb8.size
                                    rw [Nat.zero_add, List.nil_append] at ho8
                                    have gB8 := gB7.grown hg8 (fun e => by simp only [Value.ownBlock, Option.some.injEq] at e; omega)
                                    obtain ⟨Av8, cv8, rfl, hu8, hv8, hw8⟩ := SlR.of_own ho8
                                    clear hw8 hr8
                                    refine hK.out _ _ (by exact (HS.out _ hb8)) (fun hHeld => ?_)
                                    clear hK K
                                    (try simp only [Act.put, List.setIfInBounds_toArray, List.set_cons_zero, List.set_cons_succ, List.getElem_toArray, List.getElem_cons_zero, List.getElem_cons_succ])
                                    refine wpAnyH_ready (rs := [7]) (by kernel_rfl) (by simp) ?_
                                    refine AllReadyH.cons (o := { dst := some 228, op := Op.call { callee := Callee.builtin Builtin.append, args := #[Operand.tmp 225, Operand.tmp 227], argTypes := #[28, 28] }, type := 28, pos := "law.go:166", after := #[{ on := 4, ground := Ground.data }, { on := 6, ground := Ground.data }, { on := 4, ground := Ground.chain }], guard := none }) rfl (fun K hK => ?_) ?_
                                    · refine step_append_sl (size := 2) (by rfl) _ _ 28 (by rfl) wC.heap.size 25 j0 (.agg #[.int .i64 0, .slice none 0 0]) 32 Tryz.underlying28 hj0 hz0 hz1 hz2 (by rfl) (by decide) _ _ _ (by rfl) ho8 1 1 ([.int .i64 b, .slice A29 nm2 c29]) (by rfl) (gB8.slr (k := 2) (n := 1) rfl) (Below.refl _ _) (fun u hu => one2 b (A29, nm2, c29) u hu) (by unfold maxLen; omega) (by omega) (by omega) ?_
                                      intro vv9 v9W ho9 hg9 hr9
                                      have hb9 := bgrown hb8 hg9 (own_ge ho8)
                                      have hs9 := hb9.size
                                      obtain ⟨Av9, cv9, rfl, hu9, hv9, hw9⟩ := SlR.of_own ho9
                                      clear hw9 hr9
                                      refine hK.out _ _ (by exact (HS.out _ hb9)) (fun hHeld => ?_)
                                      clear hK K
                                      (try simp only [Act.put, List.setIfInBounds_toArray, List.set_cons_zero, List.set_cons_succ, List.getElem_toArray, List.getElem_cons_zero, List.getElem_cons_succ])
                                      refine wpAnyH_ready (rs := [12]) (by kernel_rfl) (by simp) ?_
                                      refine AllReadyH.cons (o := { dst := some 233, op := Op.call { callee := Callee.builtin Builtin.append, args := #[Operand.tmp 228, Operand.tmp 232], argTypes := #[28, 28] }, type := 28, pos := "law.go:166", after := #[{ on := 7, ground := Ground.data }, { on := 11, ground := Ground.data }, { on := 7, ground := Ground.chain }], guard := none }) rfl (fun K hK => ?_) ?_
                                      · refine step_append_sl (size := 2) (by rfl) _ _ 28 (by rfl) wC.heap.size 25 j0 (.agg #[.int .i64 0, .slice none 0 0]) 32 Tryz.underlying28 hj0 hz0 hz1 hz2 (by rfl) (by decide) _ _ _ (by rfl) ho9 (2 - b) (c5 - (b + 1)) ((es5.drop (b + 1)).flatMap cE) (by rfl) (HRw.out _ hb9).2 (Below.refl _ _) (fun u hu => oneE _ u hu) (by unfold maxLen; omega) (by omega) (by omega) ?_
                                        intro vv10 v10W ho10 hg10 hr10
                                        have hb10 := bgrown hb9 hg10 (own_ge ho9)
                                        have hs10 := hb10.size
                                        rw [show b + 1 + (2 - b) = 3 by omega] at ho10
                                        obtain ⟨Av10, cv10, rfl, hu10, hv10, hw10⟩ := SlR.of_own ho10
                                        clear hw10 hr10
                                        refine hK.out _ _ (by exact (HS.out _ hb10)) (fun hHeld => ?_)
                                        clear hK K
                                        (try simp only [Act.put, List.setIfInBounds_toArray, List.set_cons_zero, List.set_cons_succ, List.getElem_toArray, List.getElem_cons_zero, List.getElem_cons_succ])
                                        refine wpAnyH_ready (rs := [13]) (by kernel_rfl) (by simp) ?_
                                        refine AllReadyH.cons rfl (fun K hK => ?_) ?_
                                        · go_simp
                                          refine hK.out _ _ (by exact (HS.out _ hb10)) (fun hHeld => ?_)
                                          clear hK K
                                          (try simp only [Act.put, List.setIfInBounds_toArray, List.set_cons_zero, List.set_cons_succ, List.getElem_toArray, List.getElem_cons_zero, List.getElem_cons_succ])
                                          refine wpAnyH_done (by kernel_rfl) ?_ _
                                          go_wp2_with fail
                                          have HOn := hide HM.out.2.2.2.2.2
                                          refine ⟨⟨k + 1, Av10, cv10, es5.set b ⟨b, A29, nm2, c29⟩, L5.set b m2, by omega, rfl, rfl, hide (hNA.put hb10 (by omega) hLl ⟨rfl, HNm.out.2, by omega, by omega, hBs.to' hb10⟩ hu10 (by unfold maxLen at hv10; omega) ?_), HOn, bthen HW.out (bthen HbC.out hb10)⟩, ?_⟩
                                          · rw [← flat_put]
                                            exact (own_sln ho10).1
                                          · show 14 - ((k : Int) + 1).toNat < 14 - ((k : Nat) : Int).toNat
                                            omega
                                        · exact AllReadyH.nil
                                      · exact AllReadyH.nil
                                    · exact AllReadyH.nil
                                  · exact AllReadyH.nil
                                · exact AllReadyH.nil
                              refine AllReadyH.cons rfl (fun K hK => ?_) ?_
                              · go_simp
                                refine hK.out _ _ (by exact (HS.out _ (bdrew (balloc (Below.refl _ _) _)))) (fun hHeld => ?_)
                                clear hK K
                                (try simp only [Act.put, List.setIfInBounds_toArray, List.set_cons_zero, List.set_cons_succ, List.getElem_toArray, List.getElem_cons_zero, List.getElem_cons_succ])
                                have hb12 : Below wC.heap.size wC (wC.alloc (.cells #[.int .i64 b, .slice A29 nm2 c29] 25)).drew := (bdrew (balloc (Below.refl _ _) _))
                                have gB12 : Blk (wC.alloc (.cells #[.int .i64 b, .slice A29 nm2 c29] 25)).drew wC.heap.size 25 [.int .i64 b, .slice A29 nm2 c29] := Blk.new wC 25 [.int .i64 b, .slice A29 nm2 c29]
                                generalize (wC.alloc (.cells #[.int .i64 b, .slice A29 nm2 c29] 25)).drew = v12W at *
                                have hs12 := hb12.size
                                refine wpAnyH_ready (rs := [0]) (by kernel_rfl) (by simp) ?_
                                refine AllReadyH.cons rfl (fun K hK => ?_) ?_
                                · go_simp
                                  refine hK.out _ _ (by exact (HS.out _ (balloc hb12 _))) (fun hHeld => ?_)
                                  clear hK K
                                  (try simp only [Act.put, List.setIfInBounds_toArray, List.set_cons_zero, List.set_cons_succ, List.getElem_toArray, List.getElem_cons_zero, List.getElem_cons_succ])
                                  have hb13 : Below wC.heap.size wC (v12W.alloc (.cells #[] 25)) := (balloc hb12 _)
                                  have ho13 : (v12W.alloc (.cells #[] 25)).ownsRow wC.heap.size 25 2 (.slice (some ⟨v12W.heap.size, 0, none⟩) 0 0) 0 [] := own_emptyP v12W _ (by omega)
                                  have gB13 : Blk (v12W.alloc (.cells #[] 25)) wC.heap.size 25 [.int .i64 b, .slice A29 nm2 c29] := gB12.alloc _
                                  have gl13 := gB12.lt
                                  generalize (v12W.alloc (.cells #[] 25)) = v13W at *
                                  have hs13 := hb13.size
                                  refine wpAnyH_ready (rs := [4]) (by kernel_rfl) (by simp) ?_
                                  refine AllReadyH.cons (o := { dst := some 225, op := Op.call { callee := Callee.builtin Builtin.append, args := #[Operand.tmp 221, Operand.tmp 224], argTypes := #[28, 28] }, type := 28, pos := "law.go:166", after := #[{ on := 0, ground := Ground.data }, { on := 3, ground := Ground.data }], guard := none }) rfl (fun K hK => ?_) ?_
                                  · refine step_append_sl (size := 2) (by rfl) _ _ 28 (by rfl) wC.heap.size 25 j0 (.agg #[.int .i64 0, .slice none 0 0]) 32 Tryz.underlying28 hj0 hz0 hz1 hz2 (by rfl) (by decide) _ _ _ (by rfl) ho13 b c5 ((es5.take b).flatMap cE) (by rfl) (HRw.out _ hb13).1 (Below.refl _ _) (fun u hu => oneE _ u hu) (by unfold maxLen; omega) (by omega) (by omega) ?_
                                    intro vv14 v14W ho14 hg14 hr14
                                    have hb14 := bgrown hb13 hg14 (own_ge ho13)
                                    have hs14 := hb14.size
                                    rw [Nat.zero_add, List.nil_append] at ho14
                                    have gB14 := gB13.grown hg14 (fun e => by simp only [Value.ownBlock, Option.some.injEq] at e; omega)
                                    obtain ⟨Av14, cv14, rfl, hu14, hv14, hw14⟩ := SlR.of_own ho14
                                    clear hw14 hr14
                                    refine hK.out _ _ (by exact (HS.out _ hb14)) (fun hHeld => ?_)
                                    clear hK K
                                    (try simp only [Act.put, List.setIfInBounds_toArray, List.set_cons_zero, List.set_cons_succ, List.getElem_toArray, List.getElem_cons_zero, List.getElem_cons_succ])
                                    refine wpAnyH_ready (rs := [7]) (by kernel_rfl) (by simp) ?_
                                    refine AllReadyH.cons (o := { dst := some 228, op := Op.call { callee := Callee.builtin Builtin.append, args := #[Operand.tmp 225, Operand.tmp 227], argTypes := #[28, 28] }, type := 28, pos := "law.go:166", after := #[{ on := 4, ground := Ground.data }, { on := 6, ground := Ground.data }, { on := 4, ground := Ground.chain }], guard := none }) rfl (fun K hK => ?_) ?_
                                    · refine step_append_sl (size := 2) (by rfl) _ _ 28 (by rfl) wC.heap.size 25 j0 (.agg #[.int .i64 0, .slice none 0 0]) 32 Tryz.underlying28 hj0 hz0 hz1 hz2 (by rfl) (by decide) _ _ _ (by rfl) ho14 1 1 ([.int .i64 b, .slice A29 nm2 c29]) (by rfl) (gB14.slr (k := 2) (n := 1) rfl) (Below.refl _ _) (fun u hu => one2 b (A29, nm2, c29) u hu) (by unfold maxLen; omega) (by omega) (by omega) ?_
                                      intro vv15 v15W ho15 hg15 hr15
                                      have hb15 := bgrown hb14 hg15 (own_ge ho14)
                                      have hs15 := hb15.size
                                      obtain ⟨Av15, cv15, rfl, hu15, hv15, hw15⟩ := SlR.of_own ho15
                                      clear hw15 hr15
                                      refine hK.out _ _ (by exact (HS.out _ hb15)) (fun hHeld => ?_)
                                      clear hK K
                                      (try simp only [Act.put, List.setIfInBounds_toArray, List.set_cons_zero, List.set_cons_succ, List.getElem_toArray, List.getElem_cons_zero, List.getElem_cons_succ])
                                      refine wpAnyH_ready (rs := [12]) (by kernel_rfl) (by simp) ?_
                                      refine AllReadyH.cons (o := { dst := some 233, op := Op.call { callee := Callee.builtin Builtin.append, args := #[Operand.tmp 228, Operand.tmp 232], argTypes := #[28, 28] }, type := 28, pos := "law.go:166", after := #[{ on := 7, ground := Ground.data }, { on := 11, ground := Ground.data }, { on := 7, ground := Ground.chain }], guard := none }) rfl (fun K hK => ?_) ?_
                                      · refine step_append_sl (size := 2) (by rfl) _ _ 28 (by rfl) wC.heap.size 25 j0 (.agg #[.int .i64 0, .slice none 0 0]) 32 Tryz.underlying28 hj0 hz0 hz1 hz2 (by rfl) (by decide) _ _ _ (by rfl) ho15 (2 - b) (c5 - (b + 1)) ((es5.drop (b + 1)).flatMap cE) (by rfl) (HRw.out _ hb15).2 (Below.refl _ _) (fun u hu => oneE _ u hu) (by unfold maxLen; omega) (by omega) (by omega) ?_
                                        intro vv16 v16W ho16 hg16 hr16
                                        have hb16 := bgrown hb15 hg16 (own_ge ho15)
                                        have hs16 := hb16.size
                                        rw [show b + 1 + (2 - b) = 3 by omega] at ho16
                                        obtain ⟨Av16, cv16, rfl, hu16, hv16, hw16⟩ := SlR.of_own ho16
                                        clear hw16 hr16
                                        refine hK.out _ _ (by exact (HS.out _ hb16)) (fun hHeld => ?_)
                                        clear hK K
                                        (try simp only [Act.put, List.setIfInBounds_toArray, List.set_cons_zero, List.set_cons_succ, List.getElem_toArray, List.getElem_cons_zero, List.getElem_cons_succ])
                                        refine wpAnyH_ready (rs := [13]) (by kernel_rfl) (by simp) ?_
                                        refine AllReadyH.cons rfl (fun K hK => ?_) ?_
                                        · go_simp
                                          refine hK.out _ _ (by exact (HS.out _ hb16)) (fun hHeld => ?_)
                                          clear hK K
                                          (try simp only [Act.put, List.setIfInBounds_toArray, List.set_cons_zero, List.set_cons_succ, List.getElem_toArray, List.getElem_cons_zero, List.getElem_cons_succ])
                                          refine wpAnyH_done (by kernel_rfl) ?_ _
                                          go_wp2_with fail
                                          have HOn := hide HM.out.2.2.2.2.2
                                          refine ⟨⟨k + 1, Av16, cv16, es5.set b ⟨b, A29, nm2, c29⟩, L5.set b m2, by omega, rfl, rfl, hide (hNA.put hb16 (by omega) hLl ⟨rfl, HNm.out.2, by omega, by omega, hBs.to' hb16⟩ hu16 (by unfold maxLen at hv16; omega) ?_), HOn, bthen HW.out (bthen HbC.out hb16)⟩, ?_⟩
                                          · rw [← flat_put]
                                            exact (own_sln ho16).1
                                          · show 14 - ((k : Int) + 1).toNat < 14 - ((k : Nat) : Int).toNat
                                            omega
                                        · exact AllReadyH.nil
                                      · exact AllReadyH.nil
                                    · exact AllReadyH.nil
                                  · exact AllReadyH.nil
                                · exact AllReadyH.nil
                              · exact AllReadyH.nil
                | false =>
                  have hex : M = 0 → 3 ≤ k := fun h => by
                    have h6 := hT6 h
                    have := HC.out.symm
                    rw [Bool.and_eq_false_iff, decide_eq_false_iff_not, decide_eq_false_iff_not] at this
                    omega
                  obtain ⟨nf, hnf⟩ : ∃ n, (foldL lf).length = n := ⟨_, rfl⟩
                  have HNf := hide hnf
                  have hvr : Hid (vrB 0 lf = true) := hide (HO.out.vr (by omega))
                  clear hnf
                  have HB13 := hide (HQ.out wo HW.out)
                  obtain ⟨x0, x1, x2, -⟩ := HB13.out.1
                  go_upto_region 34 with (go_at_call 13; refine (c_pFold 0 A13 nlf c13 lf wo HB13.out.2.1 (by omega) HB13.out.1.slr).mono ?_; rintro e wF hp; rw [hvr.out, if_pos rfl] at hp; obtain ⟨hb, A25, c25, rfl, hk25, hk25', hsn⟩ := BehPost.some' HNf.out hp; clear hp x0 x1 x2; have HBF := hide hb; have H25 : Hid (∀ W, Below wF.heap.size wF W → SlR W W.heap.size 7 A25 nf ((foldL lf).flatMap cR) ∧ Now W (some ⟨gn, on, none⟩) cn es L ∧ Rp W b13 0 1 0 A13 nlf c13 lf ∧ RL W ∧ Below w.heap.size w W) := hide (fun W h => ⟨hsn.1.to' h, hnow.out.to (bthen hb h), (HQ.out W (bthen HW.out (bthen hb h))).1, (HQ.out W (bthen HW.out (bthen hb h))).2.1, (HQ.out W (bthen HW.out (bthen hb h))).2.2.1⟩); clear hb hsn)
                  go_wp2_with fail
                  go_loopw [27] (fun i W => ∃ j : Nat, j ≤ 3 ∧ i = .int .i64 j ∧ Below wF.heap.size wF W) (fun i _ => 3 - (intOf i).toNat)
                  case atStart => exact ⟨0, Nat.zero_le _, rfl, Below.refl _ _⟩
                  case round =>
                    obtain ⟨j, hj, rfl, hbY⟩ := hrel
                    obtain ⟨wy, rfl⟩ : ∃ wy, wy = wr := ⟨_, rfl⟩
                    by_cases hj3 : j < 3
                    · have hj3i : (j : Int) < 3 := by omega
                      obtain ⟨f1, f2, f3⟩ := HO.out.fin hoi.out hj3
                      have HF := hide (And.intro f1 f3)
                      have HY := hide hbY
                      obtain ⟨Aj, hAj⟩ : ∃ A, (es[j]!).A = A := ⟨_, rfl⟩
                      obtain ⟨nj, hnj⟩ : ∃ A, (es[j]!).n = A := ⟨_, rfl⟩
                      obtain ⟨cj, hcj⟩ : ∃ A, (es[j]!).c = A := ⟨_, rfl⟩
                      have hnj24 : nj ≤ 24 := by rw [← hnj, ← (hnow.out.ok j hj3).len]; exact f2
                      have HNj : Hid (∀ W, Below wy.heap.size wy W → W.cell? ⟨gn, on + j * 2, none⟩ = some (.int .i64 j) ∧ W.cell? ⟨gn, on + j * 2 + 1, none⟩ = some (.slice Aj nj cj) ∧ SlR W W.heap.size 7 Aj nj (L[j]!.flatMap cR)) := hide (fun W h => by
                        have hn := (H25.out W (bthen hbY h)).2.1
                        obtain ⟨g1, g2⟩ := hn.cells hj3
                        have g3 := (hn.ok j hj3).slr
                        rw [hAj, hnj, hcj] at g2
                        rw [hAj, hnj] at g3
                        exact ⟨g1, g2, g3⟩)
                      have hgny : gn < wy.heap.size := by
                        obtain ⟨g, o, e, h⟩ := (H25.out wy hbY).2.1.some
                        simp only [Option.some.injEq, Addr.mk.injEq] at e
                        omega
                      have hl13 : b13 < wy.heap.size := (H25.out wy hbY).2.2.1.lt
                      clear hAj hnj hcj f1 f2 f3 hbY
                      have HS : Hid (∀ W, Below wy.heap.size wy W → W.cell? ⟨gn, on + j * 2, none⟩ = some (.int .i64 j) ∧ W.cell? ⟨gn, on + j * 2 + 1, none⟩ = some (.slice Aj nj cj) ∧ W.cell? ⟨b13, 0, none⟩ = some (.int .i64 0) ∧ W.cell? ⟨b13, 1, none⟩ = some (.slice A13 nlf c13) ∧ Below wy.heap.size wy W) := hide (fun W h => ⟨(HNj.out W h).1, (HNj.out W h).2.1, (H25.out W (bthen HY.out h)).2.2.1.c0, (H25.out W (bthen HY.out h)).2.2.1.c1, h⟩)
                      have HGv : Hid (∀ W, Below wy.heap.size wy W → Calls Tryz.prog 26 #[.agg #[.int .i64 j, .slice Aj nj cj], .agg #[.int .i64 0, .slice A13 nlf c13]] W (RepPost j (some lf) W)) := hide (fun W h => by
                        have := c_pMerge j Aj nj cj L[j]! 0 A13 nlf c13 lf W (H25.out W (bthen HY.out h)).2.2.2.1 (by omega) (by omega) (HNj.out W h).2.2 (H25.out W (bthen HY.out h)).2.2.1.slr
                        rw [HF.out.1] at this
                        exact this)
                      go_wp2_with fail
                      go_cut [28, 29] from 245 to 253 (fun v u wx => BxCut j lf nlf wy v u wx)
                      case first =>
                        go_region_held3 (fun W => W.cell? ⟨gn, on + j * 2, none⟩ = some (.int .i64 j) ∧ W.cell? ⟨gn, on + j * 2 + 1, none⟩ = some (.slice Aj nj cj) ∧ W.cell? ⟨b13, 0, none⟩ = some (.int .i64 0) ∧ W.cell? ⟨b13, 1, none⟩ = some (.slice A13 nlf c13) ∧ Below wy.heap.size wy W)
                          (first | exact HS.out _ (by assumption) | exact HS.out _ (bdrew (Below.refl _ _)) | exact HS.out _ h8 | exact HS.out _ (balloc h8 _) | exact HS.out _ (bset (bset h8 (Nat.le_refl _) _) (Nat.le_refl _) _) | (go_split_ands; first | exact HS.out _ (by assumption) | exact HS.out _ (bthen (by assumption) (by assumption)) | exact HS.out _ (balloc (by assumption) _) | exact HS.out _ (bdrew (balloc (Below.refl _ _) _)) | exact HS.out _ (balloc (bthen (by assumption) (by assumption)) _)))
                          ((go_split_ands; go_at_call 26; refine (HGv.out _ (by assumption)).mono ?_; rintro e w8 hp; obtain ⟨hb8, A8, c8, rfl, hk1, hk2, hsn⟩ := RepPost.some' HN.out.2.2 hp; clear hp; have h8 : Below wy.heap.size wy w8 := bthen (by assumption) hb8; (try (obtain ⟨q0, q1, q2, q3⟩ := (((Blk.new wy 25 [.int .i64 0, .slice none 0 0]).drew).below hb8 (by simp)).all2; have q4 : wy.heap.size < w8.heap.size := (((Blk.new wy 25 [.int .i64 0, .slice none 0 0]).drew).below hb8 (by simp)).lt))))
                        all_goals
                          go_wp2_with fail
                          go_meet
                          first | exact BxCut.late h8 hsn hk1 hk2 | exact BxCut.early hb8 (by simpa using hsn) hk1 hk2
                      case rest =>
                        obtain ⟨wz, rfl⟩ : ∃ wz, wz = wc := ⟨_, rfl⟩
                        obtain ⟨b28, A28, c28, rfl, rfl, hle28, hB28, hbZ⟩ := hcut
                        clear HS HGv
                        have HZ := hide (bthen HY.out hbZ)
                        have HZ0 := hide hbZ
                        have H28 := hide hB28
                        obtain ⟨x0, x1, x2⟩ := hB28.cells
                        clear hB28 hbZ
                        have hvj : Hid (vrB j lf = true) := hide (HO.out.vr (by omega))
                        go_upto_region 41 with (go_at_call 13; refine (c_pFold j A28 nlf c28 lf wz (H25.out wz HZ.out).2.2.2.1 (by omega) H28.out.slr).mono ?_; rintro e wG hp; rw [hvj.out, if_pos rfl] at hp; obtain ⟨hb, A30, c30, rfl, hk30, hk30', hsn⟩ := BehPost.some' HNf.out hp; clear hp x0 x1 x2; have HG := hide (bthen HZ.out hb); have HG0 := hide (bthen HZ0.out hb); have H30 : Hid (∀ W, Below wG.heap.size wG W → SlR W W.heap.size 7 A30 nf ((foldL lf).flatMap cR) ∧ Bx W b28 j A28 nlf c28 lf) := hide (fun W h => ⟨hsn.1.to' h, H28.out.to (bthen hb h)⟩); clear hb hsn; obtain ⟨x0, x1, x2⟩ := (H30.out wG (Below.refl _ _)).2.cells; obtain ⟨y0, y1, y2, -⟩ := (H25.out wG HG.out).2.2.1)
                        have hs1 : Calls Tryz.prog 15 #[.slice A28 nlf c28, .slice A13 nlf c13] wG fun e w' => e = .returned (.bool true) ∧ Below wG.heap.size wG w' := by
                          have := c_rSameRecords A28 nlf c28 lf A13 nlf c13 lf wG (by omega) (by omega) (H30.out wG (Below.refl _ _)).2.slr (H25.out wG HG.out).2.2.1.slr
                          rw [decide_eq_true rfl] at this
                          exact this
                        have hs2 : Hid (∀ W, Below wG.heap.size wG W → Calls Tryz.prog 15 #[.slice A30 nf c30, .slice A25 nf c25] W fun e w' => e = .returned (.bool true) ∧ Below W.heap.size W w') := hide (fun W h => by
                          have := c_rSameRecords A30 nf c30 (foldL lf) A25 nf c25 (foldL lf) W (by omega) (by omega) (H30.out W h).1 (H25.out W (bthen HG.out h)).1
                          rw [decide_eq_true rfl] at this
                          exact this)
                        go_upto_region 43 with (go_at_call 15; first | (with_reducible refine hs1.mono ?_; rintro e wH ⟨rfl, hb⟩; have HH := hide hb; clear hb x0 x1 x2 y0 y1 y2) | (with_reducible refine (hs2.out _ HH.out).mono ?_; rintro e wI ⟨rfl, hb⟩; have HI := hide (bthen HH.out hb); clear hb))
                        clear hs1 hs2
                        have HI2 := hide (bthen HG.out HI.out)
                        have HI0 := hide (bthen HG0.out HI.out)
                        by_cases hM0 : M = 0
                        · have hMq : ((M : Int) == 0) = true := by rw [beq_iff_eq]; omega
                          have hMi : (M : Int) = 0 := by omega
                          have hLj : L[j]! = lf := HF.out.2 hM0 (hex hM0)
                          have f1 := fun x : BW wI => (HNj.out x.val (bthen HI0.out x.ok)).2.1
                          have f2 := fun x : BW wI => (H25.out x.val (bthen HI2.out x.ok)).2.2.1.c1
                          have hs3 : Hid (∀ W, Below wI.heap.size wI W → Calls Tryz.prog 15 #[.slice Aj nj cj, .slice A13 nlf c13] W fun e w' => e = .returned (.bool true) ∧ Below W.heap.size W w') := hide (fun W h => by
                            have h1 := (HNj.out W (bthen HI0.out h)).2.2
                            rw [hLj] at h1
                            have := c_rSameRecords Aj nj cj lf A13 nlf c13 lf W (by omega) (by omega) h1 (H25.out W (bthen HI2.out h)).2.2.1.slr
                            rw [decide_eq_true rfl] at this
                            exact this)
                          subst hM0
                          clear hMi hMq
                          refine wp_region_bw wI (Below.refl _ _) (by kernel_rfl) (by kernel_rfl) ?_
                          repeat (go_big_quiet_step ((go_at_call 15; exact bw_call (hs3.out _ (BW.ok _)))))
                          refine wpQuiet_nil ?_
                          intro wJ hbJ
                          clear f1 f2
                          go_wp2_with fail
                          have hw1 : wrap64 ((j : Int) + 1) = ((j + 1 : Nat) : Int) := (Go.IntWalk.wrap64_in _ (by omega)).trans rfl
                          try rw [hw1]
                          clear hw1
                          refine ⟨⟨j + 1, by omega, rfl, bthen HI2.out hbJ⟩, ?_⟩
                          show 3 - ((j : Int) + 1).toNat < 3 - ((j : Nat) : Int).toNat
                          omega
                        · have hMq : ((M : Int) == 0) = false := by rw [beq_eq_false_iff_ne]; omega
                          have hMi : ¬ (M : Int) = 0 := by omega
                          have hMd : decide ((M : Int) = 0) = false := decide_eq_false hMi
                          refine wp_region_bw wI (Below.refl _ _) (by kernel_rfl) (by kernel_rfl) ?_
                          repeat (go_big_quiet_step (fail))
                          refine wpQuiet_nil ?_
                          intro wJ hbJ
                          go_wp2_with fail
                          have hw1 : wrap64 ((j : Int) + 1) = ((j + 1 : Nat) : Int) := (Go.IntWalk.wrap64_in _ (by omega)).trans rfl
                          try rw [hw1]
                          clear hw1
                          refine ⟨⟨j + 1, by omega, rfl, bthen HI2.out hbJ⟩, ?_⟩
                          show 3 - ((j : Int) + 1).toNat < 3 - ((j : Nat) : Int).toNat
                          omega
                    · obtain rfl : j = 3 := by omega
                      have HE := hide (H25.out wy hbY).2.2.2.2
                      clear hbY
                      go_wp2_with fail
                      go_ret
                      exact ⟨rfl, HE.out⟩
end Go.Proofs.YtcfbgelhggapjaaGreatDoor
/- ReplicaOrder returns true for every input, and each argument reads afterwards as it read before. No condition but the row's own: the variable holds what the program's text lays. -/
namespace Go.Proofs.YtcfbgelhggapjaaGreatDoor
open Go.ChangeShapes Go.WideShapes Go.ChangeAt Go.RowKit
theorem order_reads (os : Os) {H : Type} (enc : TypeId × Value → H) : ∃ places, DataW.whole enc Tryz.prog ((laidWorld os).forCall (fun _ _ => 0) ⟨#[], #[.slice none 0 0, .slice none 0 0], []⟩).memory Tryz.f4.params.toList Rows.replicaOrderSpec.vars false ((#[.slice none 0 0, .slice none 0 0] : Array Value)).toList 8 = some ([.nil, .nil], [], places) :=
  ⟨[], by kernel_rfl⟩
set_option maxHeartbeats 1600000 in
set_option maxRecDepth 100000 in
theorem order_contract (H : Type) (enc : TypeId × Value → H) (W : World) (base : Nat) (args : Array Value) (ds gs : List (DataW H)) (before : List MemPlace)
    (hval0 : ∀ (j : Nat) t v, Tryz.f4.params[j]? = some t → args[j]? = some v → Value.okWide Tryz.prog W .any base t v)
    (hW : DataW.Whole enc Tryz.prog Tryz.f4.params.toList Rows.replicaOrderSpec.vars false W args.toList ds gs before) (hL : laidMetH Tryz.prog Rows.replicaOrderRow.laid W) :
    Calls Tryz.prog 4 args W fun e W' => ∃ v, e = .returned v ∧ Rows.replicaOrderSpec.post enc Tryz.prog Tryz.f4 false true false false W args v W' := by
  have hR : RL W := rl_of hL
  have hval : ∀ (j : Nat) t v, Tryz.f4.params[j]? = some t → args[j]? = some v → Value.okWide Tryz.prog W .any base t v := hval0
  have hW' := hW
  obtain ⟨p, q, hA0, hV, rfl, hfz, hnd⟩ := hW
  have hA : DataW.TrodAll enc Tryz.prog W 0 (fun _ => true) true Tryz.f4.params.toList args.toList ds p := hA0
  have hA1 := hA
  rw [Tryz.params4] at hA hval
  obtain ⟨v0, v1, d0, d1, p0, p1, rfl, rfl, rfl, h0, h1⟩ := trodAll_two hA
  obtain ⟨rfl, rfl⟩ := trodVars_none hV
  obtain ⟨A0, x0, c0, rfl, hn0, hc0, hw0, hr0⟩ := open_sl4 (hval 0 22 v0 rfl rfl) h0
  obtain ⟨A1, x1, c1, rfl, hn1, hc1, hw1, hr1⟩ := open_ints1 (hval 1 54 v1 rfl rfl) h1
  refine (c_Order A0 x0.length c0 x0 A1 x1.length c1 x1 W hR (by omega) hw0 rfl hr0 (by omega) hw1 rfl hr1).mono fun e W' ⟨he, hB⟩ => ?_
  subst he
  refine ⟨_, rfl, _, _, _, [], _, [], hW', ?_, below_all hB ?_ hA1, rfl, hB.frame _, fun h => by cases h⟩
  · exact trodAll_mk1 (shut_bool Tryz.underlying4 true)
  · rw [Tryz.params4]
    intro t ht
    simp only [List.mem_cons, List.not_mem_nil, or_false] at ht
    rcases ht with rfl | rfl <;> exact ⟨by kernel_rfl, of_decide_eq_true (by kernel_rfl)⟩
set_option maxRecDepth 100000 in
theorem order_lifted (os : Os) (started : os.Started) (H : Type) (enc : TypeId × Value → H) (F : Stop.Interp) :
    ReturnsInHanded {} Tryz.checked os 4 .any ((OpenSpec.ofChange Rows.replicaOrderSpec).preRow enc Tryz.prog Tryz.f4 Rows.replicaOrderRow.domain false Rows.replicaOrderRow.laid) (((OpenSpec.ofChange Rows.replicaOrderSpec).at F).post enc Tryz.prog Tryz.f4 false true false false) := by
  obtain ⟨places, hx⟩ := order_reads os enc
  refine returnsInHanded_of_row (C := Tryz.checked) (s := OpenSpec.ofChange Rows.replicaOrderSpec) Tryz.own started (by kernel_rfl) Tryz.func4
    (witness_row_at (enc := enc) (C := Tryz.checked) false (laidWorld os) #[.slice none 0 0, .slice none 0 0] rfl (by kernel_rfl) (by kernel_rfl) (by kernel_rfl)
      (OpenSpec.preRow_of_cond 8 hx (by kernel_rfl) (fun k hk => by cases hk) (by kernel_rfl) (laid_met os _))) ?_
  intro W base args ds gs before hval hW _ _ _ hL _ _
  exact order_contract H enc W base args ds gs before hval hW hL
/-- ReplicaOrder: whatever the input, true; the input reads as it did. -/
theorem order_said : Rows.ReplicaOrderSaid :=
  OpenClaim.holds_of_cond 4 Tryz.f4 rfl rfl rfl rfl rfl rfl rfl ⟨rfl, rfl, rfl, rfl, rfl⟩ rfl rfl rfl rfl rfl (by kernel_rfl) Tryz.func4 (by kernel_rfl)
    (of_decide_eq_true (by kernel_rfl)) (by unfold Func.isWrapper; first | (rw [if_pos (by decide +kernel)]; kernel_rfl) | (rw [if_neg (by decide +kernel)]; exact ⟨rfl, rfl⟩))
    (fun os started H enc _ F => by rw [OpenClaim.pre_eq_preRow]; exact order_lifted os started H enc F)
/-- no parameter wants a stand-in; the program's own looks are off -/
theorem order_plain (f : FuncId) (fn : Func) (hf : Tryz.pinned.checked.prog.funcNamed "slatewall/slatewalllaw35.ReplicaOrder" = some f) (hfn : Tryz.pinned.checked.prog.funcs[f]? = some fn) :
    false = Tryz.pinned.checked.prog.looks [] ∧ ∀ (j : Nat) t, fn.params[j]? = some t → Tryz.pinned.checked.prog.wantsStandIn t = false := by
  obtain rfl : f = 4 := Option.some.inj ((show Tryz.prog.funcNamed "slatewall/slatewalllaw35.ReplicaOrder" = some 4 by kernel_rfl).symm.trans hf) |>.symm
  obtain rfl : fn = Tryz.f4 := (Option.some.inj (Tryz.func4.symm.trans hfn)).symm
  refine ⟨by kernel_rfl, fun j t ht => ?_⟩
  rw [Tryz.params4] at ht
  have hm : t ∈ [22, 54] := by simpa using Array.mem_of_getElem? ht
  have hall : ([22, 54].all fun u => !Tryz.prog.wantsStandIn u) = true := by kernel_rfl
  exact (show Tryz.prog.wantsStandIn t = false by simpa using List.all_eq_true.1 hall t hm)
/-- THE CARD of ReplicaOrder. -/
theorem order_holds : Rows.ReplicaOrderCardSaid :=
  Claim7.holds_tied_plain_at .later [] _ _ _ _ order_said (fun _ h => by cases h) (by kernel_rfl) (fun _ h => by cases h) replicaOrder_row_tie rfl ⟨rfl, rfl⟩ (by kernel_rfl) rfl order_plain (by kernel_rfl)
end Go.Proofs.YtcfbgelhggapjaaGreatDoor
#print axioms Go.Proofs.YtcfbgelhggapjaaGreatDoor.order_holds
