/- ModuleMatchesReference, in pieces: the fifth loop, the fourth loop's round. -/
import Derived.Test.YtncdombfhcfobaaGreatG20
namespace Go.Proofs.YtncdombfhcfobaaGreat
open Go.RowKit Go.Shelf
/-- another definition, boxed -/
def NxCut (wo : World) (id : Int) (L : List It) (v : Value) (wx : World) : Prop :=
  ∃ g A c, v = .pointer (some ⟨g, 0, none⟩) ∧ L.length ≤ c ∧ c ≤ 9223372036854775807 ∧ Blk wx g 37 [.int .i64 id, .slice A L.length c] ∧ SlR wx wx.heap.size 6 A L.length (L.flatMap cI) ∧ Below wo.heap.size wo wx
theorem SlR.of_own' {w : World} {base n c k : Nat} {e : TypeId} {A : Option Addr} {xs : List Value} (h : w.ownsRow base e k (.slice A n c) n xs) : SlR w w.heap.size k A n xs := (own_row h).2.2

set_option linter.unusedSimpArgs false in
set_option linter.unusedVariables false in
set_option maxRecDepth 100000 in
set_option maxHeartbeats 16000000 in
theorem l8 (bL oL N C i : Nat) (r0 r52 : MR) (m0 m52 : Mo) (b52 gT : Nat) (a : Act) (w : World) (Q : Exit → Act → World → Prop) (hz : a.tmps.size = 416) (hd : a.defers = []) (h28 : sl a 28 = .slice (some ⟨bL, oL, none⟩) N C) (h51 : sl a 51 = .int .i64 i) (h52 : sl a 52 = .pointer (some ⟨b52, 0, none⟩)) (h336 : sl a 336 = .slice (some ⟨gT, 0, none⟩) 2 2) (h337 : sl a 337 = .int .i64 2) (h338 : sl a 338 = .int .i64 (0 : Nat)) (hN : N ≤ 100) (hi : i < N) (x0 : w.cell? ⟨bL, oL + i * 2, none⟩ = some (.int .i64 r0.id)) (x1 : w.cell? ⟨bL, oL + i * 2 + 1, none⟩ = some (.slice r0.a r0.n r0.c)) (k0 : MoL w r0 m0) (g52 : Blk w b52 37 (cM r52)) (k52 : MoL w r52 m52)
    (hM : ∀ k : Nat, k < 2 → ∃ (rn : MR) (mn : Mo), ∀ W : World, Below w.heap.size w W → MoL W rn mn ∧ W.cell? ⟨gT, k * 2, none⟩ = some (.int .i64 rn.id) ∧ W.cell? ⟨gT, k * 2 + 1, none⟩ = some (.slice rn.a rn.n rn.c))
    (hQ : ∀ (a' : Act) (W : World), Kp [19, 1, 2, 16, 23, 25, 26, 28, 136, 137, 138, 51, 52, 336, 337] a a' → Below w.heap.size w W → Q .normal a' W) : (blk 8).wp Tryz.prog Q a w := by
  conv => arg 2; whnf
  rw [show Code.block 9 _ = blk 9 from rfl]
  refine wp_block (wp_loop_ghost_k (fun n a' W => ∃ k : Nat, k + n = 2 ∧ Kp [19, 1, 2, 16, 23, 25, 26, 28, 136, 137, 138, 51, 52, 336, 337] a a' ∧ sl a' 338 = .int .i64 k ∧ Below w.heap.size w W) 2 ⟨0, by omega, Kp.refl hz hd, h338, Below.refl _ _⟩ ?_)
  rintro n a1 W ⟨k, hk, hK, hs, hb⟩ J K hJ hKK
  obtain ⟨u, rfl⟩ : ∃ u, a1 = frm u := ⟨sl a1, act_frm hK.1 hK.2.1⟩
  have e28 := (sl_frm u 28 (by decide)).symm.trans ((hK.2.2 28 (by decide)).trans h28)
  have e51 := (sl_frm u 51 (by decide)).symm.trans ((hK.2.2 51 (by decide)).trans h51)
  have e52 := (sl_frm u 52 (by decide)).symm.trans ((hK.2.2 52 (by decide)).trans h52)
  have e336 := (sl_frm u 336 (by decide)).symm.trans ((hK.2.2 336 (by decide)).trans h336)
  have e337 := (sl_frm u 337 (by decide)).symm.trans ((hK.2.2 337 (by decide)).trans h337)
  have e338 := (sl_frm u 338 (by decide)).symm.trans hs
  have HK := hide hK
  have HJ := hide hJ
  have HQ := hide hQ
  have HM := hide hM
  have H28 := hide e28
  have H51 := hide e51
  have H52 := hide e52
  have H336 := hide e336
  have H337 := hide e337
  clear hK hJ hQ hM hs h28 h51 h52 h336 h337 h338

  unfold frm
  rw [e28, e51, e52, e336, e337, e338]
  clear e28 e51 e52 e336 e337 e338
  by_cases hlt : k < 2
  · have hlt' : (k : Int) < 2 := by omega
    go_wp2_with fail
    rename_i K2 hK2
    obtain ⟨rn, mn, hM⟩ := HM.out k hlt
    obtain ⟨kn, z0, z1⟩ := hM W hb
    refine b9 bL oL N C i r0 r52 rn m0 m52 mn b52 gT k _ W _ (by rfl) (by rfl) (by rfl) (by rfl) (by rfl) (by rfl) (by rfl) hN hi ((hb.cell (p := ⟨bL, _, none⟩) (World.block_lt_of_cell? w _ x0)).trans x0) ((hb.cell (p := ⟨bL, _, none⟩) (World.block_lt_of_cell? w _ x1)).trans x1) (k0.to hb) (g52.below hb g52.lt) (k52.to hb) hlt z0 z1 kn ?_
    intro a2 W2 hK' hb'
    have h1 : Kp [19, 1, 2, 16, 23, 25, 26, 28, 136, 137, 138, 51, 52, 336, 337] a a2 := (HK.out.trans (by exact ⟨rfl, rfl, fun i hi => by
    simp only [List.mem_cons, List.not_mem_nil, or_false] at hi
    rcases hi with rfl | rfl | rfl | rfl | rfl | rfl | rfl | rfl | rfl | rfl | rfl | rfl | rfl | rfl | rfl <;> first | rfl | exact H28.out.symm | exact H51.out.symm | exact H52.out.symm | exact H336.out.symm | exact H337.out.symm⟩ : Kp [19, 1, 2, 16, 23, 25, 26, 28, 136, 137, 138, 51, 52, 336, 337] (frm u) _)).trans (hK'.sub (by rfl))
    have hs' : sl a2 338 = .int .i64 k := (hK'.2.2 338 (by decide)).trans rfl
    clear hK'
    refine hK2 _ _ ?_
    obtain ⟨u2, rfl⟩ : ∃ u2, a2 = frm u2 := ⟨sl a2, act_frm h1.1 h1.2.1⟩
    have e := (sl_frm u2 338 (by decide)).symm.trans hs'
    have HE2 := hide e
    have H1 := hide h1
    clear hs' h1 hK2
    unfold frm
    rw [e]
    clear e
    go_wp2_with fail
    refine Handed.intro (n - 1) (by omega) (HJ.out _ _ _ ⟨k + 1, by omega, H1.out.trans ?_, ?_, bthen hb hb'⟩)
    · exact ⟨rfl, rfl, fun i hi => by
    simp only [List.mem_cons, List.not_mem_nil, or_false] at hi
    rcases hi with rfl | rfl | rfl | rfl | rfl | rfl | rfl | rfl | rfl | rfl | rfl | rfl | rfl | rfl | rfl <;> first | rfl | exact HE2.out.symm⟩
    · first | rfl | (show Value.int .i64 _ = Value.int .i64 _; congr 1; omega)
  · obtain rfl : k = 2 := by omega
    go_wp2_with fail
    refine HQ.out _ _ (HK.out.trans ?_) hb
    exact ⟨rfl, rfl, fun i hi => by
    simp only [List.mem_cons, List.not_mem_nil, or_false] at hi
    rcases hi with rfl | rfl | rfl | rfl | rfl | rfl | rfl | rfl | rfl | rfl | rfl | rfl | rfl | rfl | rfl <;> first | rfl | exact H28.out.symm | exact H51.out.symm | exact H52.out.symm | exact H336.out.symm | exact H337.out.symm⟩

set_option linter.unusedSimpArgs false in
set_option linter.unusedVariables false in
set_option maxRecDepth 100000 in
set_option maxHeartbeats 16000000 in
theorem b7 (bL oL N C i : Nat) (r0 r26 : MR) (m0 m26 : Mo) (b26 : Nat) (A1 A2 : Option Addr) (d1 d2 : Nat) (ys zs : List I3) (a : Act) (w : World) (Q : Exit → Act → World → Prop) (hz : a.tmps.size = 416) (hd : a.defers = []) (h1 : sl a 1 = .slice A1 ys.length d1) (h2 : sl a 2 = .slice A2 zs.length d2) (h26 : sl a 26 = .pointer (some ⟨b26, 0, none⟩)) (h28 : sl a 28 = .slice (some ⟨bL, oL, none⟩) N C) (h51 : sl a 51 = .int .i64 i) (hN : N ≤ 100) (hi : i < N) (x0 : w.cell? ⟨bL, oL + i * 2, none⟩ = some (.int .i64 r0.id)) (x1 : w.cell? ⟨bL, oL + i * 2 + 1, none⟩ = some (.slice r0.a r0.n r0.c)) (k0 : MoL w r0 m0) (g26 : Blk w b26 37 (cM r26)) (k26 : MoL w r26 m26) (hs1 : SlR w w.heap.size 3 A1 ys.length (ys.flatMap c3)) (hs2 : SlR w w.heap.size 3 A2 zs.length (zs.flatMap c3)) (hw1 : ∀ s ∈ ys, ok3 s) (hw2 : ∀ s ∈ zs, ok3 s) (hd1 : ys.length ≤ d1) (hd1' : d1 ≤ 9223372036854775807) (hd2 : zs.length ≤ d2) (hd2' : d2 ≤ 9223372036854775807)
    (hQ : ∀ (a' : Act) (W : World), Kp [19, 1, 2, 16, 23, 25, 26, 28, 136, 137, 138, 51] a a' → Below w.heap.size w W → Q .normal a' W) : (blk 7).wp Tryz.prog Q a w := by
  conv => arg 2; whnf
  rw [show Code.block 8 _ = blk 8 from rfl]
  obtain ⟨u, rfl⟩ : ∃ u, a = frm u := ⟨sl a, act_frm hz hd⟩
  clear hz hd
  rw [sl_frm u 1 (by decide)] at h1
  rw [sl_frm u 2 (by decide)] at h2
  rw [sl_frm u 26 (by decide)] at h26
  rw [sl_frm u 28 (by decide)] at h28
  rw [sl_frm u 51 (by decide)] at h51
  have H1 := hide h1
  have H2 := hide h2
  have H26 := hide h26
  have H28 := hide h28
  have H51 := hide h51
  have HQ := hide hQ
  unfold frm
  dsimp only
  rw [h1, h2, h26, h28, h51]
  clear h1 h2 h26 h28 h51 hQ
  have hi' : (i : Int) < (N : Int) := by omega
  have lx := World.block_lt_of_cell? w _ x0
  have ly := World.block_lt_of_cell? w _ x1
  have HI := hide (And.intro k0.1 k26.1)
  have HD := hide (And.intro (And.intro hd1 hd1') (And.intro hd2 hd2'))
  have HO := hide (And.intro hw1 hw2)
  have HB : Hid (∀ W : World, Below w.heap.size w W → ((W.cell? ⟨bL, oL + i * 2, none⟩ = some (.int .i64 r0.id) ∧ W.cell? ⟨bL, oL + i * 2 + 1, none⟩ = some (.slice r0.a r0.n r0.c)) ∧ MoL W r0 m0) ∧ (Blk W b26 37 (cM r26) ∧ MoL W r26 m26) ∧ SlR W W.heap.size 3 A1 ys.length (ys.flatMap c3) ∧ SlR W W.heap.size 3 A2 zs.length (zs.flatMap c3) ∧ Below w.heap.size w W) := hide fun W hb => by
    exact ⟨⟨⟨(hb.cell (p := ⟨bL, _, none⟩) lx).trans x0, (hb.cell (p := ⟨bL, _, none⟩) ly).trans x1⟩, k0.to hb⟩, ⟨g26.below hb g26.lt, k26.to hb⟩, hs1.to' hb, hs2.to' hb, hb⟩
  clear k0 k26 g26 x0 x1 lx ly hs1 hs2 hw1 hw2 hd1 hd1' hd2 hd2'
  go_upto_region 45 with (fail)
  have HS := hide (fun (W : World) (h : Below w.heap.size w W) => (show W.cell? ⟨bL, oL + i * 2, none⟩ = some (.int .i64 r0.id) ∧ Below w.heap.size w W from ⟨(HB.out W h).1.1.1, h⟩))
  have HGv := hide (fun (W : World) (h : Below w.heap.size w W) => c_Given A2 zs.length d2 zs 3 W (by have := HD.out; omega) (HB.out W h).2.2.2.1 HO.out.2 (by unfold okN; omega))
  go_cut [52] from 292 to 299 (fun v wx => NxCut w r0.id (givenL 3 zs) v wx)
  case first =>
    clear HQ
    go_region_held3 (fun W => W.cell? ⟨bL, oL + i * 2, none⟩ = some (.int .i64 r0.id) ∧ Below w.heap.size w W)
      (first | exact HS.out _ (by assumption) | exact HS.out _ (bdrew (Below.refl _ _)) | exact HS.out _ h8 | exact HS.out _ (balloc h8 _) | exact HS.out _ (bset (bset h8 (Nat.le_refl _) _) (Nat.le_refl _) _) | (go_split_ands; first | exact HS.out _ (by assumption) | exact HS.out _ (bthen (by assumption) (by assumption)) | exact HS.out _ (balloc (by assumption) _) | exact HS.out _ (bdrew (balloc (Below.refl _ _) _)) | exact HS.out _ (balloc (bthen (by assumption) (by assumption)) _)))
      ((go_split_ands; go_at_call 9; refine (HGv.out _ (by assumption)).mono ?_; rintro e w8 ⟨v, rfl, hrow, hb8⟩; obtain ⟨A', c', rfl, hc1, hc2, hsl⟩ := SlR.of_own hrow; have h8 : Below w.heap.size w w8 := bthen (by assumption) hb8; (try (obtain ⟨q0, q1, q2, q3⟩ := (((Blk.new w 37 [.int .i64 0, .slice none 0 0]).drew).below hb8 (by simp)).all2; have q4 : w.heap.size < w8.heap.size := (((Blk.new w 37 [.int .i64 0, .slice none 0 0]).drew).below hb8 (by simp)).lt))))
    · go_wp2_with fail
      go_meet
      exact ⟨w8.heap.size, A', c', rfl, hc1, by simpa [maxLen] using hc2, Blk.new w8 37 [.int .i64 r0.id, .slice A' (givenL 3 zs).length c'], hsl.to' (balloc (Below.refl _ _) _), balloc h8 _⟩
    · go_wp2_with fail
      go_meet
      have gN := ((Blk.new w 37 [.int .i64 0, .slice none 0 0]).drew).below hb8 (by simp)
      exact ⟨w.heap.size, A', c', rfl, hc1, by simpa [maxLen] using hc2, (gN.set 0 (.int .i64 r0.id)).set 1 (.slice A' (givenL 3 zs).length c'), (SlR.of_own' (own_set (own_set hrow ⟨w.heap.size, 0, none⟩ (by simp) (.int .i64 r0.id)) ⟨w.heap.size, 1, none⟩ (by simp) (.slice A' (givenL 3 zs).length c'))), bset (bset h8 (Nat.le_refl _) _) (Nat.le_refl _) _⟩
  case rest =>
    obtain ⟨w1, rfl⟩ : ∃ w1 : World, w1 = wc := ⟨_, rfl⟩
    obtain ⟨b52, A52, c52, rfl, g1, g2, gN, sN, hbq⟩ := hcut
    clear HS HGv
    have HN52 := hide (And.intro g1 g2)
    generalize givenL 3 zs = G52 at *
    have H52 : Hid (∀ W : World, Below w1.heap.size w1 W → (Blk W b52 37 [.int .i64 r0.id, .slice A52 G52.length c52] ∧ SlR W W.heap.size 6 A52 G52.length (G52.flatMap cI)) ∧ Below w.heap.size w W) := hide fun W hW => ⟨⟨gN.below hW gN.lt, sN.to' hW⟩, bthen hbq hW⟩
    clear g1 g2 gN sN hbq
    go_upto_region 46 with (fail)
    have HS := hide (fun (W : World) (h : Below w1.heap.size w1 W) => (show W.cell? ⟨bL, oL + i * 2, none⟩ = some (.int .i64 r0.id) ∧ Below w1.heap.size w1 W from ⟨(HB.out W (H52.out W h).2).1.1.1, h⟩))
    have HGv := hide (fun (W : World) (h : Below w1.heap.size w1 W) => c_Given A1 ys.length d1 ys 3 W (by have := HD.out; omega) (HB.out W (H52.out W h).2).2.2.1 HO.out.1 (by unfold okN; omega))
    go_cut [53] from 300 to 307 (fun v wx => NxCut w1 r0.id (givenL 3 ys) v wx)
    case first =>
      clear HQ
      go_region_held3 (fun W => W.cell? ⟨bL, oL + i * 2, none⟩ = some (.int .i64 r0.id) ∧ Below w1.heap.size w1 W)
        (first | exact HS.out _ (by assumption) | exact HS.out _ (bdrew (Below.refl _ _)) | exact HS.out _ h8 | exact HS.out _ (balloc h8 _) | exact HS.out _ (bset (bset h8 (Nat.le_refl _) _) (Nat.le_refl _) _) | (go_split_ands; first | exact HS.out _ (by assumption) | exact HS.out _ (bthen (by assumption) (by assumption)) | exact HS.out _ (balloc (by assumption) _) | exact HS.out _ (bdrew (balloc (Below.refl _ _) _)) | exact HS.out _ (balloc (bthen (by assumption) (by assumption)) _)))
        ((go_split_ands; go_at_call 9; refine (HGv.out _ (by assumption)).mono ?_; rintro e w8 ⟨v, rfl, hrow, hb8⟩; obtain ⟨A', c', rfl, hc1, hc2, hsl⟩ := SlR.of_own hrow; have h8 : Below w1.heap.size w1 w8 := bthen (by assumption) hb8; (try (obtain ⟨q0, q1, q2, q3⟩ := (((Blk.new w1 37 [.int .i64 0, .slice none 0 0]).drew).below hb8 (by simp)).all2; have q4 : w1.heap.size < w8.heap.size := (((Blk.new w1 37 [.int .i64 0, .slice none 0 0]).drew).below hb8 (by simp)).lt))))
      · go_wp2_with fail
        go_meet
        exact ⟨w8.heap.size, A', c', rfl, hc1, by simpa [maxLen] using hc2, Blk.new w8 37 [.int .i64 r0.id, .slice A' (givenL 3 ys).length c'], hsl.to' (balloc (Below.refl _ _) _), balloc h8 _⟩
      · go_wp2_with fail
        go_meet
        have gN := ((Blk.new w1 37 [.int .i64 0, .slice none 0 0]).drew).below hb8 (by simp)
        exact ⟨w1.heap.size, A', c', rfl, hc1, by simpa [maxLen] using hc2, (gN.set 0 (.int .i64 r0.id)).set 1 (.slice A' (givenL 3 ys).length c'), (SlR.of_own' (own_set (own_set hrow ⟨w1.heap.size, 0, none⟩ (by simp) (.int .i64 r0.id)) ⟨w1.heap.size, 1, none⟩ (by simp) (.slice A' (givenL 3 ys).length c'))), bset (bset h8 (Nat.le_refl _) _) (Nat.le_refl _) _⟩
    case rest =>
      obtain ⟨w2, rfl⟩ : ∃ w2 : World, w2 = wc := ⟨_, rfl⟩
      obtain ⟨b53, A53, c53, rfl, g1, g2, gN, sN, hbq⟩ := hcut
      clear HS HGv
      have HN53 := hide (And.intro g1 g2)
      generalize givenL 3 ys = G53 at *
      have H53 : Hid (∀ W : World, Below w2.heap.size w2 W → (Blk W b53 37 [.int .i64 r0.id, .slice A53 G53.length c53] ∧ SlR W W.heap.size 6 A53 G53.length (G53.flatMap cI)) ∧ Below w1.heap.size w1 W) := hide fun W hW => ⟨⟨gN.below hW gN.lt, sN.to' hW⟩, bthen hbq hW⟩
      clear g1 g2 gN sN hbq
      go_upto_region 47 with (fail)
      have HV1 := hide (fun (x : BW w2) => c_Proper r0 m0.items x.val HI.out.1.2 (HB.out x.val (H52.out x.val (H53.out x.val x.ok).2).2).1.2.2)
      have HV2 := hide (fun (x : BW w2) => c_rProper r0 m0.items x.val HI.out.1.2 (HB.out x.val (H52.out x.val (H53.out x.val x.ok).2).2).1.2.2)
      have HV3 := hide (fun (x : BW w2) => c_Same r0 ⟨r0.id, A52, G52.length, c52⟩ m0.items G52 x.val HI.out.1.2 (by have := HN52.out; simp only []; omega) (HB.out x.val (H52.out x.val (H53.out x.val x.ok).2).2).1.2.2 (H52.out x.val (H53.out x.val x.ok).2).1.2)
      have HV4 := hide (fun (x : BW w2) => c_rSame r0 ⟨r0.id, A52, G52.length, c52⟩ m0.items G52 x.val HI.out.1.2 (by have := HN52.out; simp only []; omega) (HB.out x.val (H52.out x.val (H53.out x.val x.ok).2).2).1.2.2 (H52.out x.val (H53.out x.val x.ok).2).1.2)
      generalize (inB r0.id 1 20 && itsOk m0.items) = v1 at HV1 HV2
      generalize (decide (r0.id = (⟨r0.id, A52, G52.length, c52⟩ : MR).id) && decide (m0.items = G52)) = v2 at HV3 HV4
      have fr0 := fun (x : BW w2) => (HB.out x.val (H52.out x.val (H53.out x.val x.ok).2).2).1.1.1
      have fr1 := fun (x : BW w2) => (HB.out x.val (H52.out x.val (H53.out x.val x.ok).2).2).1.1.2
      have fq0 := fun (x : BW w2) => ((H52.out x.val (H53.out x.val x.ok).2).1.1.two).1
      have fq1 := fun (x : BW w2) => ((H52.out x.val (H53.out x.val x.ok).2).1.1.two).2
      have lq := (H52.out w2 (H53.out w2 (Below.refl _ _)).2).1.1.lt
      refine wp_region_bw w2 (Below.refl _ _) (by kernel_rfl) (by kernel_rfl) ?_
      repeat (go_big_quiet_step (first | (go_at_call 31; exact bw_call (HV1.out _)) | (go_at_call 32; exact bw_call (HV2.out _)) | (go_at_call 33; exact bw_call (HV3.out _)) | (go_at_call 34; exact bw_call (HV4.out _))))
      refine wpQuiet_nil ?_
      intro w3 hb3
      clear fr0 fr1 fq0 fq1 lq HV1 HV2 HV3 HV4
      obtain ⟨⟨g53, s53⟩, hb1⟩ := H53.out w3 hb3
      obtain ⟨⟨g52, s52⟩, hb0⟩ := H52.out w3 hb1
      obtain ⟨⟨⟨x0, x1⟩, k0⟩, ⟨g26, k26⟩, -, -, hbw⟩ := HB.out w3 hb0
      obtain ⟨p0, p1⟩ := g53.two
      obtain ⟨y0, y1⟩ := g26.two
      have l53 := g53.lt
      have l26 := g26.lt
      have gT := Blk.new w3 37 [.int .i64 r0.id, .slice A53 G53.length c53, .int .i64 r26.id, .slice r26.a r26.n r26.c]
      have hbT := balloc (Below.refl w3.heap.size w3) (.cells #[.int .i64 r0.id, .slice A53 G53.length c53, .int .i64 r26.id, .slice r26.a r26.n r26.c] 37)
      have HMm : Hid (∀ k : Nat, k < 2 → ∃ (rn : MR) (mn : Mo), ∀ W : World, Below (w3.alloc (.cells #[.int .i64 r0.id, .slice A53 G53.length c53, .int .i64 r26.id, .slice r26.a r26.n r26.c] 37)).heap.size (w3.alloc (.cells #[.int .i64 r0.id, .slice A53 G53.length c53, .int .i64 r26.id, .slice r26.a r26.n r26.c] 37)) W → MoL W rn mn ∧ W.cell? ⟨w3.heap.size, k * 2, none⟩ = some (.int .i64 rn.id) ∧ W.cell? ⟨w3.heap.size, k * 2 + 1, none⟩ = some (.slice rn.a rn.n rn.c)) := hide (by
        intro k hk
        obtain rfl | rfl : k = 0 ∨ k = 1 := by omega
        · refine ⟨⟨r0.id, A53, G53.length, c53⟩, ⟨r0.id, G53⟩, fun W hW => ?_⟩
          have g := gT.below hW gT.lt
          exact ⟨⟨⟨rfl, by have := HN53.out; simp only []; omega⟩, s53.to' (bthen hbT hW)⟩, g.cell 0, g.cell 1⟩
        · refine ⟨r26, m26, fun W hW => ?_⟩
          have g := gT.below hW gT.lt
          exact ⟨k26.to (bthen hbT hW), g.cell 2, g.cell 3⟩)
      have HB4 : Hid ((((w3.alloc (.cells #[.int .i64 r0.id, .slice A53 G53.length c53, .int .i64 r26.id, .slice r26.a r26.n r26.c] 37)).cell? ⟨bL, oL + i * 2, none⟩ = some (.int .i64 r0.id) ∧ (w3.alloc (.cells #[.int .i64 r0.id, .slice A53 G53.length c53, .int .i64 r26.id, .slice r26.a r26.n r26.c] 37)).cell? ⟨bL, oL + i * 2 + 1, none⟩ = some (.slice r0.a r0.n r0.c)) ∧ MoL (w3.alloc (.cells #[.int .i64 r0.id, .slice A53 G53.length c53, .int .i64 r26.id, .slice r26.a r26.n r26.c] 37)) r0 m0) ∧ (Blk (w3.alloc (.cells #[.int .i64 r0.id, .slice A53 G53.length c53, .int .i64 r26.id, .slice r26.a r26.n r26.c] 37)) b52 37 [.int .i64 r0.id, .slice A52 G52.length c52] ∧ MoL (w3.alloc (.cells #[.int .i64 r0.id, .slice A53 G53.length c53, .int .i64 r26.id, .slice r26.a r26.n r26.c] 37)) ⟨r0.id, A52, G52.length, c52⟩ ⟨r0.id, G52⟩) ∧ Below w3.heap.size w3 (w3.alloc (.cells #[.int .i64 r0.id, .slice A53 G53.length c53, .int .i64 r26.id, .slice r26.a r26.n r26.c] 37))) :=
        hide ⟨(HB.out _ (H52.out _ (H53.out _ (bthen hb3 hbT)).2).2).1, ⟨(H52.out _ (H53.out _ (bthen hb3 hbT)).2).1.1, ⟨⟨rfl, by have := HN52.out; simp only []; omega⟩, (H52.out _ (H53.out _ (bthen hb3 hbT)).2).1.2⟩⟩, hbT⟩
      have HB3 := hide hb3
      clear g53 s53 hb1 g52 s52 hb0 x0 x1 k0 g26 k26 hbw gT hbT hb3
      have HW := hide (fun (W : World) (h : Below (w3.alloc (.cells #[.int .i64 r0.id, .slice A53 G53.length c53, .int .i64 r26.id, .slice r26.a r26.n r26.c] 37)).heap.size (w3.alloc (.cells #[.int .i64 r0.id, .slice A53 G53.length c53, .int .i64 r26.id, .slice r26.a r26.n r26.c] 37)) W) => (HB.out W (H52.out W (H53.out W (bthen HB3.out (bthen HB4.out.2.2 h))).2).2).2.2.2.2)
      go_wp2_with fail
      clear p0 p1 y0 y1 l53 l26
      generalize (w3.alloc (.cells #[.int .i64 r0.id, .slice A53 G53.length c53, .int .i64 r26.id, .slice r26.a r26.n r26.c] 37)) = w4 at *
      generalize w3.heap.size = gT at *
      obtain ⟨⟨⟨x0, x1⟩, k0⟩, ⟨g52, k52⟩, hb34⟩ := HB4.out
      refine l8 bL oL N C i r0 ⟨r0.id, A52, G52.length, c52⟩ m0 ⟨r0.id, G52⟩ b52 gT _ w4 _ (by rfl) (by rfl) (by rfl) (by rfl) (by rfl) (by rfl) (by rfl) (by rfl) hN hi x0 x1 k0 g52 k52 HMm.out ?_
      intro a' W hK' hb'
      have hKp := hK'.sub (K' := [19, 1, 2, 16, 23, 25, 26, 28, 136, 137, 138, 51]) (by rfl)
      show Q .normal a' W
      refine HQ.out a' W (Kp.trans ?_ hKp) (HW.out W hb')
      exact ⟨rfl, rfl, fun i hi => by
          simp only [List.mem_cons, List.not_mem_nil, or_false] at hi
          rcases hi with rfl | rfl | rfl | rfl | rfl | rfl | rfl | rfl | rfl | rfl | rfl | rfl <;> first | rfl | exact H1.out.symm | exact H2.out.symm | exact H26.out.symm | exact H28.out.symm | exact H51.out.symm⟩

end Go.Proofs.YtncdombfhcfobaaGreat
/- ModuleMatchesReference, in pieces: the fourth loop, the first loop. -/
namespace Go.Proofs.YtncdombfhcfobaaGreat
open Go.RowKit Go.Shelf

set_option linter.unusedSimpArgs false in
set_option linter.unusedVariables false in
set_option maxRecDepth 100000 in
set_option maxHeartbeats 16000000 in
theorem l6 (L : LM) (r26 : MR) (m26 : Mo) (b26 : Nat) (A1 A2 : Option Addr) (d1 d2 : Nat) (ys zs : List I3) (a : Act) (w : World) (Q : Exit → Act → World → Prop) (hz : a.tmps.size = 416) (hd : a.defers = []) (h1 : sl a 1 = .slice A1 ys.length d1) (h2 : sl a 2 = .slice A2 zs.length d2) (h26 : sl a 26 = .pointer (some ⟨b26, 0, none⟩)) (h28 : sl a 28 = .slice L.A L.n L.c) (h51 : sl a 51 = .int .i64 (0 : Nat)) (hLB : LmB L) (hlm : LmOk w L) (g26 : Blk w b26 37 (cM r26)) (k26 : MoL w r26 m26) (hs1 : SlR w w.heap.size 3 A1 ys.length (ys.flatMap c3)) (hs2 : SlR w w.heap.size 3 A2 zs.length (zs.flatMap c3)) (hw1 : ∀ s ∈ ys, ok3 s) (hw2 : ∀ s ∈ zs, ok3 s) (hd1 : ys.length ≤ d1) (hd1' : d1 ≤ 9223372036854775807) (hd2 : zs.length ≤ d2) (hd2' : d2 ≤ 9223372036854775807)
    (hM : True)
    (hQ : ∀ (a' : Act) (W : World), Kp [19, 1, 2, 16, 23, 25, 26, 28, 136, 137, 138] a a' → Below w.heap.size w W → Q .normal a' W) : (blk 6).wp Tryz.prog Q a w := by
  conv => arg 2; whnf
  rw [show Code.block 7 _ = blk 7 from rfl]
  refine wp_block (wp_loop_ghost_k (fun n a' W => ∃ k : Nat, k + n = L.n ∧ Kp [19, 1, 2, 16, 23, 25, 26, 28, 136, 137, 138] a a' ∧ sl a' 51 = .int .i64 k ∧ Below w.heap.size w W) L.n ⟨0, by omega, Kp.refl hz hd, h51, Below.refl _ _⟩ ?_)
  rintro n a1 W ⟨k, hk, hK, hs, hb⟩ J K hJ hKK
  obtain ⟨u, rfl⟩ : ∃ u, a1 = frm u := ⟨sl a1, act_frm hK.1 hK.2.1⟩
  have e1 := (sl_frm u 1 (by decide)).symm.trans ((hK.2.2 1 (by decide)).trans h1)
  have e2 := (sl_frm u 2 (by decide)).symm.trans ((hK.2.2 2 (by decide)).trans h2)
  have e26 := (sl_frm u 26 (by decide)).symm.trans ((hK.2.2 26 (by decide)).trans h26)
  have e28 := (sl_frm u 28 (by decide)).symm.trans ((hK.2.2 28 (by decide)).trans h28)
  have e51 := (sl_frm u 51 (by decide)).symm.trans hs
  have HK := hide hK
  have HJ := hide hJ
  have HQ := hide hQ
  have HM := hide hM
  have H1 := hide e1
  have H2 := hide e2
  have H26 := hide e26
  have H28 := hide e28
  clear hK hJ hQ hM hs h1 h2 h26 h28 h51
  have hLn := hLB.1
  unfold frm
  rw [e1, e2, e26, e28, e51]
  clear e1 e2 e26 e28 e51
  by_cases hlt : k < L.n
  · have hlt' : (k : Int) < L.n := by omega
    go_wp2_with fail
    rename_i K2 hK2
    have hl0 : k < L.rows.length := by rw [hlm.1.lenm]; exact hlt
    have hl1 : k < L.ms.length := by rw [← hlm.2.1]; exact hl0
    obtain ⟨bL, oL, hA, -, x0, x1⟩ := hlm.1.atM hb hl0
    have hmm := (hlm.to hb).2.2 k hl0 hl1
    refine b7 bL oL L.n L.c k L.rows[k] r26 L.ms[k] m26 b26 A1 A2 d1 d2 ys zs _ W _ (by rfl) (by rfl) (by rfl) (by rfl) (by rfl) (by exact Eq.trans (b := Value.slice L.A L.n L.c) rfl (by rw [hA])) (by rfl) hLn hlt x0 x1 ⟨⟨hmm.1, Nat.le_trans hmm.2.1 hmm.2.2.1⟩, hmm.2.2.2⟩ (g26.below hb g26.lt) (k26.to hb) (hs1.to' hb) (hs2.to' hb) hw1 hw2 hd1 hd1' hd2 hd2' ?_
    intro a2 W2 hK' hb'
    have h1 : Kp [19, 1, 2, 16, 23, 25, 26, 28, 136, 137, 138] a a2 := (HK.out.trans (by exact ⟨rfl, rfl, fun i hi => by
    simp only [List.mem_cons, List.not_mem_nil, or_false] at hi
    rcases hi with rfl | rfl | rfl | rfl | rfl | rfl | rfl | rfl | rfl | rfl | rfl <;> first | rfl | exact H1.out.symm | exact H2.out.symm | exact H26.out.symm | exact H28.out.symm⟩ : Kp [19, 1, 2, 16, 23, 25, 26, 28, 136, 137, 138] (frm u) _)).trans (hK'.sub (by rfl))
    have hs' : sl a2 51 = .int .i64 k := (hK'.2.2 51 (by decide)).trans rfl
    clear hK'
    refine hK2 _ _ ?_
    obtain ⟨u2, rfl⟩ : ∃ u2, a2 = frm u2 := ⟨sl a2, act_frm h1.1 h1.2.1⟩
    have e := (sl_frm u2 51 (by decide)).symm.trans hs'
    have HE2 := hide e
    have H1 := hide h1
    clear hs' h1 hK2
    unfold frm
    rw [e]
    clear e
    go_wp2_with fail
    refine Handed.intro (n - 1) (by omega) (HJ.out _ _ _ ⟨k + 1, by omega, H1.out.trans ?_, ?_, bthen hb hb'⟩)
    · exact ⟨rfl, rfl, fun i hi => by
    simp only [List.mem_cons, List.not_mem_nil, or_false] at hi
    rcases hi with rfl | rfl | rfl | rfl | rfl | rfl | rfl | rfl | rfl | rfl | rfl <;> first | rfl | exact HE2.out.symm⟩
    · first | rfl | (show Value.int .i64 _ = Value.int .i64 _; congr 1; omega)
  · obtain rfl : k = L.n := by omega
    go_wp2_with fail
    refine HQ.out _ _ (HK.out.trans ?_) hb
    exact ⟨rfl, rfl, fun i hi => by
    simp only [List.mem_cons, List.not_mem_nil, or_false] at hi
    rcases hi with rfl | rfl | rfl | rfl | rfl | rfl | rfl | rfl | rfl | rfl | rfl <;> first | rfl | exact H1.out.symm | exact H2.out.symm | exact H26.out.symm | exact H28.out.symm⟩

set_option linter.unusedSimpArgs false in
set_option linter.unusedVariables false in
set_option maxRecDepth 100000 in
set_option maxHeartbeats 16000000 in
theorem b1 (L : LM) (rO rs : CR) (cO cs : Cp) (r25 r26 : MR) (m25 m26 : Mo) (b23 bC b25 b26 gL i : Nat) (A1 A2 : Option Addr) (d1 d2 : Nat) (ys zs : List I3) (a : Act) (w : World) (Q : Exit → Act → World → Prop) (hz : a.tmps.size = 416) (hd : a.defers = []) (h1 : sl a 1 = .slice A1 ys.length d1) (h2 : sl a 2 = .slice A2 zs.length d2) (h16 : sl a 16 = .pointer (some ⟨bC, 0, none⟩)) (h23 : sl a 23 = .pointer (some ⟨b23, 0, none⟩)) (h25 : sl a 25 = .pointer (some ⟨b25, 0, none⟩)) (h26 : sl a 26 = .pointer (some ⟨b26, 0, none⟩)) (h136 : sl a 136 = .slice (some ⟨gL, 0, none⟩) 3 3) (h138 : sl a 138 = .int .i64 i) (hi : i < 3) (hLB : LmB L) (hlm : LmOk w L) (z0 : w.cell? ⟨gL, i, none⟩ = some (.slice L.A L.n L.c)) (hcO : CpR w rO cO) (gO : Blk w b23 32 (cC rO)) (hcS : CpR w rs cs) (gC : Blk w bC 32 (cC rs)) (g25 : Blk w b25 37 (cM r25)) (h25m : MoOk w r25 m25) (g26 : Blk w b26 37 (cM r26)) (h26m : MoOk w r26 m26) (hs1 : SlR w w.heap.size 3 A1 ys.length (ys.flatMap c3)) (hs2 : SlR w w.heap.size 3 A2 zs.length (zs.flatMap c3)) (hw1 : ∀ s ∈ ys, ok3 s) (hw2 : ∀ s ∈ zs, ok3 s) (hd1 : ys.length ≤ d1) (hd1' : d1 ≤ 9223372036854775807) (hd2 : zs.length ≤ d2) (hd2' : d2 ≤ 9223372036854775807)
    (hQ : ∀ (a' : Act) (W : World), Kp [19, 1, 2, 16, 23, 25, 26, 136, 137, 138] a a' → Below w.heap.size w W → Q .normal a' W) : (blk 1).wp Tryz.prog Q a w := by
  conv => arg 2; whnf
  rw [show Code.block 2 _ = blk 2 from rfl, show Code.block 6 _ = blk 6 from rfl]
  obtain ⟨u, rfl⟩ : ∃ u, a = frm u := ⟨sl a, act_frm hz hd⟩
  clear hz hd
  rw [sl_frm u 1 (by decide)] at h1
  rw [sl_frm u 2 (by decide)] at h2
  rw [sl_frm u 16 (by decide)] at h16
  rw [sl_frm u 23 (by decide)] at h23
  rw [sl_frm u 25 (by decide)] at h25
  rw [sl_frm u 26 (by decide)] at h26
  rw [sl_frm u 136 (by decide)] at h136
  rw [sl_frm u 138 (by decide)] at h138
  have H1 := hide h1
  have H2 := hide h2
  have H16 := hide h16
  have H23 := hide h23
  have H25 := hide h25
  have H26 := hide h26
  have H136 := hide h136
  have H138 := hide h138
  have HQ := hide hQ
  unfold frm
  rw [h1, h2, h16, h23, h25, h26, h136, h138]
  clear h1 h2 h16 h23 h25 h26 h136 h138 hQ
  have hi' : (i : Int) < 3 := by omega
  have hLn := hLB.1
  have hLn63 : L.n ≤ 9223372036854775807 := by omega
  have HLB := hide hLB
  have HD := hide (And.intro (And.intro hd1 hd1') (And.intro hd2 hd2'))
  have HO := hide (And.intro hw1 hw2)
  have HB : Hid (∀ W : World, Below w.heap.size w W → LmOk W L ∧ ((CpR W rO cO ∧ Blk W b23 32 (cC rO)) ∧ (CpR W rs cs ∧ Blk W bC 32 (cC rs))) ∧ ((Blk W b25 37 (cM r25) ∧ MoOk W r25 m25) ∧ (Blk W b26 37 (cM r26) ∧ MoOk W r26 m26)) ∧ (SlR W W.heap.size 3 A1 ys.length (ys.flatMap c3) ∧ SlR W W.heap.size 3 A2 zs.length (zs.flatMap c3))) := hide fun W hb =>
    ⟨hlm.to hb, ⟨⟨hcO.to hb, gO.below hb gO.lt⟩, ⟨hcS.to hb, gC.below hb gC.lt⟩⟩, ⟨⟨g25.below hb g25.lt, h25m.to hb⟩, ⟨g26.below hb g26.lt, h26m.to hb⟩⟩, ⟨hs1.to' hb, hs2.to' hb⟩⟩
  have lgl := World.block_lt_of_cell? w _ z0
  have hk := c_Valid L.A L.n L.c L.rows L.ms w hLn63 hlm.1 hlm.2
  clear hLB hlm hcO gO hcS gC g25 h25m g26 h26m hs1 hs2 hw1 hw2 hd1 hd1' hd2 hd2'
  go_wp2_with fail
  refine hk.mono ?_
  clear hk
  rintro e w14 ⟨rfl, hb14⟩
  have H14 := hide hb14
  have lm := (HB.out w14 H14.out).1
  have hk := c_rValid L.A L.n L.c L.rows L.ms w14 hLn63 lm.1 lm.2
  clear lm hb14 z0 lgl
  go_wp2_with fail
  refine hk.mono ?_
  clear hk
  rintro e w15 ⟨rfl, hb15⟩
  have H15 := hide (bthen H14.out hb15)
  generalize validB L.ms = vB at *
  obtain ⟨-, ⟨⟨-, gO⟩, ⟨-, gC⟩⟩, -⟩ := HB.out w15 H15.out
  obtain ⟨y0, y1, y2, y3, y4, y5⟩ := gO.allC
  have lO := gO.lt
  obtain ⟨x0, x1, x2, x3, x4, x5⟩ := gC.allC
  have lC := gC.lt
  clear gO gC hb15 H14
  go_wp2_with fail
  have gD : Blk (w15.alloc (.cells #[.int .i64 rO.code, .int .i64 rO.mod, .int .i64 rO.x, .int .i64 rO.y, .slice rO.a rO.n rO.c, .slice rO.a2 rO.n2 rO.c2, .int .i64 rs.code, .int .i64 rs.mod, .int .i64 rs.x, .int .i64 rs.y, .slice rs.a rs.n rs.c, .slice rs.a2 rs.n2 rs.c2] 32)) w15.heap.size 32 (cC rO ++ cC rs) := Blk.new w15 32 (cC rO ++ cC rs)
  have hbD := balloc (Below.refl w15.heap.size w15) (.cells #[.int .i64 rO.code, .int .i64 rO.mod, .int .i64 rO.x, .int .i64 rO.y, .slice rO.a rO.n rO.c, .slice rO.a2 rO.n2 rO.c2, .int .i64 rs.code, .int .i64 rs.mod, .int .i64 rs.x, .int .i64 rs.y, .slice rs.a rs.n rs.c, .slice rs.a2 rs.n2 rs.c2] 32)
  have HDc : Hid (∀ j : Nat, j < 2 → ∃ (rd : CR) (cd : Cp), ∀ W : World, Below (w15.alloc (.cells #[.int .i64 rO.code, .int .i64 rO.mod, .int .i64 rO.x, .int .i64 rO.y, .slice rO.a rO.n rO.c, .slice rO.a2 rO.n2 rO.c2, .int .i64 rs.code, .int .i64 rs.mod, .int .i64 rs.x, .int .i64 rs.y, .slice rs.a rs.n rs.c, .slice rs.a2 rs.n2 rs.c2] 32)).heap.size (w15.alloc (.cells #[.int .i64 rO.code, .int .i64 rO.mod, .int .i64 rO.x, .int .i64 rO.y, .slice rO.a rO.n rO.c, .slice rO.a2 rO.n2 rO.c2, .int .i64 rs.code, .int .i64 rs.mod, .int .i64 rs.x, .int .i64 rs.y, .slice rs.a rs.n rs.c, .slice rs.a2 rs.n2 rs.c2] 32)) W → CpR W rd cd ∧ W.cell? ⟨w15.heap.size, j * 6, none⟩ = some (.int .i64 rd.code) ∧ W.cell? ⟨w15.heap.size, j * 6 + 1, none⟩ = some (.int .i64 rd.mod) ∧ W.cell? ⟨w15.heap.size, j * 6 + 2, none⟩ = some (.int .i64 rd.x) ∧ W.cell? ⟨w15.heap.size, j * 6 + 3, none⟩ = some (.int .i64 rd.y) ∧ W.cell? ⟨w15.heap.size, j * 6 + 4, none⟩ = some (.slice rd.a rd.n rd.c) ∧ W.cell? ⟨w15.heap.size, j * 6 + 5, none⟩ = some (.slice rd.a2 rd.n2 rd.c2)) := hide (by
    intro j hj
    obtain rfl | rfl : j = 0 ∨ j = 1 := by omega
    · refine ⟨rO, cO, fun W hW => ?_⟩
      have g := gD.below hW gD.lt
      exact ⟨(HB.out W (bthen H15.out (bthen hbD hW))).2.1.1.1, g.cell 0, g.cell 1, g.cell 2, g.cell 3, g.cell 4, g.cell 5⟩
    · refine ⟨rs, cs, fun W hW => ?_⟩
      have g := gD.below hW gD.lt
      exact ⟨(HB.out W (bthen H15.out (bthen hbD hW))).2.1.2.1, g.cell 6, g.cell 7, g.cell 8, g.cell 9, g.cell 10, g.cell 11⟩)
  have H16w := hide (bthen H15.out hbD)
  clear gD hbD y0 y1 y2 y3 y4 y5 x0 x1 x2 x3 x4 x5 lO lC H15
  generalize (w15.alloc (.cells #[.int .i64 rO.code, .int .i64 rO.mod, .int .i64 rO.x, .int .i64 rO.y, .slice rO.a rO.n rO.c, .slice rO.a2 rO.n2 rO.c2, .int .i64 rs.code, .int .i64 rs.mod, .int .i64 rs.x, .int .i64 rs.y, .slice rs.a rs.n rs.c, .slice rs.a2 rs.n2 rs.c2] 32)) = w16 at *
  generalize w15.heap.size = gD at *
  rename_i K2 hK2
  obtain ⟨lm, ⟨⟨cO', gO'⟩, -⟩, ⟨⟨g25, k25⟩, ⟨g26, k26⟩⟩, -⟩ := HB.out w16 H16w.out
  refine l2 L rO cO r25 r26 m25 m26 b23 b25 b26 gD _ w16 _ (by rfl) (by rfl) (by rfl) (by rfl) (by rfl) (by rfl) (by rfl) (by rfl) (by rfl) HLB.out lm cO' gO' g25 k25 g26 k26 HDc.out ?_
  intro a2 W2 hK' hb'
  refine hK2 _ _ ?_
  clear hK2 lm cO' gO' g25 k25 g26 k26
  have e1 : sl a2 1 = .slice A1 ys.length d1 := (hK'.2.2 1 (by decide)).trans rfl
  have e2 : sl a2 2 = .slice A2 zs.length d2 := (hK'.2.2 2 (by decide)).trans rfl
  have e26 : sl a2 26 = .pointer (some ⟨b26, 0, none⟩) := (hK'.2.2 26 (by decide)).trans rfl
  have e28 : sl a2 28 = .slice L.A L.n L.c := (hK'.2.2 28 (by decide)).trans rfl
  have h1 : Kp [19, 1, 2, 16, 23, 25, 26, 136, 137, 138] (frm u) a2 := Kp.trans (by exact ⟨rfl, rfl, fun i hi => by
      simp only [List.mem_cons, List.not_mem_nil, or_false] at hi
      rcases hi with rfl | rfl | rfl | rfl | rfl | rfl | rfl | rfl | rfl | rfl <;> first | rfl | exact H1.out.symm | exact H2.out.symm | exact H16.out.symm | exact H23.out.symm | exact H25.out.symm | exact H26.out.symm | exact H136.out.symm | exact H138.out.symm⟩) (hK'.sub (K' := [19, 1, 2, 16, 23, 25, 26, 136, 137, 138]) (by rfl))
  obtain ⟨u2, rfl⟩ : ∃ u2, a2 = frm u2 := ⟨sl a2, act_frm hK'.1 hK'.2.1⟩
  rw [sl_frm u2 1 (by decide)] at e1
  rw [sl_frm u2 2 (by decide)] at e2
  rw [sl_frm u2 26 (by decide)] at e26
  rw [sl_frm u2 28 (by decide)] at e28
  have HE1 := hide e1
  have HE2 := hide e2
  have HE26 := hide e26
  have HE28 := hide e28
  have HKp := hide h1
  clear h1 hK'
  unfold frm
  rw [e1, e2, e26, e28]
  clear e1 e2 e26 e28
  go_wp2_with fail
  have hb2 := bthen H16w.out hb'
  obtain ⟨lm, -, ⟨-, ⟨g26, k26⟩⟩, ⟨s1, s2⟩⟩ := HB.out W2 hb2
  refine l6 L r26 m26 b26 A1 A2 d1 d2 ys zs _ W2 _ (by rfl) (by rfl) (by rfl) (by rfl) (by rfl) (by rfl) (by rfl) HLB.out lm g26 k26.low s1 s2 HO.out.1 HO.out.2 HD.out.1.1 HD.out.1.2 HD.out.2.1 HD.out.2.2 trivial ?_
  intro a3 W3 hK3 hb3
  have hKp := hK3.sub (K' := [19, 1, 2, 16, 23, 25, 26, 136, 137, 138]) (by rfl)
  show Q .normal a3 W3
  refine HQ.out a3 W3 (HKp.out.trans (Kp.trans ?_ hKp)) (bthen hb2 hb3)
  exact ⟨rfl, rfl, fun i hi => by
      simp only [List.mem_cons, List.not_mem_nil, or_false] at hi
      rcases hi with rfl | rfl | rfl | rfl | rfl | rfl | rfl | rfl | rfl | rfl <;> first | rfl | exact HE1.out.symm | exact HE2.out.symm | exact HE26.out.symm | exact HE28.out.symm⟩

set_option linter.unusedSimpArgs false in
set_option linter.unusedVariables false in
set_option maxRecDepth 100000 in
set_option maxHeartbeats 16000000 in
theorem l0 (rO rs : CR) (cO cs : Cp) (r25 r26 : MR) (m25 m26 : Mo) (b23 bC b25 b26 gL : Nat) (A1 A2 : Option Addr) (d1 d2 : Nat) (ys zs : List I3) (a : Act) (w : World) (Q : Exit → Act → World → Prop) (hz : a.tmps.size = 416) (hd : a.defers = []) (h1 : sl a 1 = .slice A1 ys.length d1) (h2 : sl a 2 = .slice A2 zs.length d2) (h16 : sl a 16 = .pointer (some ⟨bC, 0, none⟩)) (h23 : sl a 23 = .pointer (some ⟨b23, 0, none⟩)) (h25 : sl a 25 = .pointer (some ⟨b25, 0, none⟩)) (h26 : sl a 26 = .pointer (some ⟨b26, 0, none⟩)) (h136 : sl a 136 = .slice (some ⟨gL, 0, none⟩) 3 3) (h137 : sl a 137 = .int .i64 3) (h138 : sl a 138 = .int .i64 (0 : Nat)) (hcO : CpR w rO cO) (gO : Blk w b23 32 (cC rO)) (hcS : CpR w rs cs) (gC : Blk w bC 32 (cC rs)) (g25 : Blk w b25 37 (cM r25)) (h25m : MoOk w r25 m25) (g26 : Blk w b26 37 (cM r26)) (h26m : MoOk w r26 m26) (hs1 : SlR w w.heap.size 3 A1 ys.length (ys.flatMap c3)) (hs2 : SlR w w.heap.size 3 A2 zs.length (zs.flatMap c3)) (hw1 : ∀ s ∈ ys, ok3 s) (hw2 : ∀ s ∈ zs, ok3 s) (hd1 : ys.length ≤ d1) (hd1' : d1 ≤ 9223372036854775807) (hd2 : zs.length ≤ d2) (hd2' : d2 ≤ 9223372036854775807)
    (hM : ∀ i : Nat, i < 3 → ∃ L : LM, LmB L ∧ ∀ W : World, Below w.heap.size w W → LmOk W L ∧ W.cell? ⟨gL, i, none⟩ = some (.slice L.A L.n L.c))
    (hQ : ∀ (a' : Act) (W : World), Kp [19, 1, 2, 16, 23, 25, 26, 136, 137] a a' → Below w.heap.size w W → Q .normal a' W) : (blk 0).wp Tryz.prog Q a w := by
  conv => arg 2; whnf
  rw [show Code.block 1 _ = blk 1 from rfl]
  refine wp_block (wp_loop_ghost_k (fun n a' W => ∃ k : Nat, k + n = 3 ∧ Kp [19, 1, 2, 16, 23, 25, 26, 136, 137] a a' ∧ sl a' 138 = .int .i64 k ∧ Below w.heap.size w W) 3 ⟨0, by omega, Kp.refl hz hd, h138, Below.refl _ _⟩ ?_)
  rintro n a1 W ⟨k, hk, hK, hs, hb⟩ J K hJ hKK
  obtain ⟨u, rfl⟩ : ∃ u, a1 = frm u := ⟨sl a1, act_frm hK.1 hK.2.1⟩
  have e1 := (sl_frm u 1 (by decide)).symm.trans ((hK.2.2 1 (by decide)).trans h1)
  have e2 := (sl_frm u 2 (by decide)).symm.trans ((hK.2.2 2 (by decide)).trans h2)
  have e16 := (sl_frm u 16 (by decide)).symm.trans ((hK.2.2 16 (by decide)).trans h16)
  have e23 := (sl_frm u 23 (by decide)).symm.trans ((hK.2.2 23 (by decide)).trans h23)
  have e25 := (sl_frm u 25 (by decide)).symm.trans ((hK.2.2 25 (by decide)).trans h25)
  have e26 := (sl_frm u 26 (by decide)).symm.trans ((hK.2.2 26 (by decide)).trans h26)
  have e136 := (sl_frm u 136 (by decide)).symm.trans ((hK.2.2 136 (by decide)).trans h136)
  have e137 := (sl_frm u 137 (by decide)).symm.trans ((hK.2.2 137 (by decide)).trans h137)
  have e138 := (sl_frm u 138 (by decide)).symm.trans hs
  have HK := hide hK
  have HJ := hide hJ
  have HQ := hide hQ
  have HM := hide hM
  have H1 := hide e1
  have H2 := hide e2
  have H16 := hide e16
  have H23 := hide e23
  have H25 := hide e25
  have H26 := hide e26
  have H136 := hide e136
  have H137 := hide e137
  clear hK hJ hQ hM hs h1 h2 h16 h23 h25 h26 h136 h137 h138

  unfold frm
  rw [e1, e2, e16, e23, e25, e26, e136, e137, e138]
  clear e1 e2 e16 e23 e25 e26 e136 e137 e138
  by_cases hlt : k < 3
  · have hlt' : (k : Int) < 3 := by omega
    go_wp2_with fail
    rename_i K2 hK2
    obtain ⟨L, hLB, hM⟩ := HM.out k hlt
    obtain ⟨lm, z0⟩ := hM W hb
    refine b1 L rO rs cO cs r25 r26 m25 m26 b23 bC b25 b26 gL k A1 A2 d1 d2 ys zs _ W _ (by rfl) (by rfl) (by rfl) (by rfl) (by rfl) (by rfl) (by rfl) (by rfl) (by rfl) (by rfl) hlt hLB lm z0 (hcO.to hb) (gO.below hb gO.lt) (hcS.to hb) (gC.below hb gC.lt) (g25.below hb g25.lt) (h25m.to hb) (g26.below hb g26.lt) (h26m.to hb) (hs1.to' hb) (hs2.to' hb) hw1 hw2 hd1 hd1' hd2 hd2' ?_
    intro a2 W2 hK' hb'
    have h1 : Kp [19, 1, 2, 16, 23, 25, 26, 136, 137] a a2 := (HK.out.trans (by exact ⟨rfl, rfl, fun i hi => by
    simp only [List.mem_cons, List.not_mem_nil, or_false] at hi
    rcases hi with rfl | rfl | rfl | rfl | rfl | rfl | rfl | rfl | rfl <;> first | rfl | exact H1.out.symm | exact H2.out.symm | exact H16.out.symm | exact H23.out.symm | exact H25.out.symm | exact H26.out.symm | exact H136.out.symm | exact H137.out.symm⟩ : Kp [19, 1, 2, 16, 23, 25, 26, 136, 137] (frm u) _)).trans (hK'.sub (by rfl))
    have hs' : sl a2 138 = .int .i64 k := (hK'.2.2 138 (by decide)).trans rfl
    clear hK'
    refine hK2 _ _ ?_
    obtain ⟨u2, rfl⟩ : ∃ u2, a2 = frm u2 := ⟨sl a2, act_frm h1.1 h1.2.1⟩
    have e := (sl_frm u2 138 (by decide)).symm.trans hs'
    have HE2 := hide e
    have H1 := hide h1
    clear hs' h1 hK2
    unfold frm
    rw [e]
    clear e
    go_wp2_with fail
    refine Handed.intro (n - 1) (by omega) (HJ.out _ _ _ ⟨k + 1, by omega, H1.out.trans ?_, ?_, bthen hb hb'⟩)
    · exact ⟨rfl, rfl, fun i hi => by
    simp only [List.mem_cons, List.not_mem_nil, or_false] at hi
    rcases hi with rfl | rfl | rfl | rfl | rfl | rfl | rfl | rfl | rfl <;> first | rfl | exact HE2.out.symm⟩
    · first | rfl | (show Value.int .i64 _ = Value.int .i64 _; congr 1; omega)
  · obtain rfl : k = 3 := by omega
    go_wp2_with fail
    refine HQ.out _ _ (HK.out.trans ?_) hb
    exact ⟨rfl, rfl, fun i hi => by
    simp only [List.mem_cons, List.not_mem_nil, or_false] at hi
    rcases hi with rfl | rfl | rfl | rfl | rfl | rfl | rfl | rfl | rfl <;> first | rfl | exact H1.out.symm | exact H2.out.symm | exact H16.out.symm | exact H23.out.symm | exact H25.out.symm | exact H26.out.symm | exact H136.out.symm | exact H137.out.symm⟩

end Go.Proofs.YtncdombfhcfobaaGreat
