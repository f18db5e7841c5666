/- The law against the reference: loop 3. -/
import Derived.Test.YtcfbgelhggapjaaGreatDoorQ23
namespace Go.Proofs.YtcfbgelhggapjaaGreatDoor
open Go.RowKit Go.Shelf
set_option linter.unusedSimpArgs false in
set_option linter.unusedVariables false in
set_option maxRecDepth 100000 in
set_option maxHeartbeats 16000000 in
/-- one round of the third loop: Merge, Behind and Same -/
theorem rnd5 (w14 wL : World) (b1 b2 b3 b7 b14 : Nat) (rP : Int) (rA : Option Addr) (rn rc : Nat) (l : List Rc) (g5 o5 c5 : Nat) (es : List En) (L : List (List Rc)) (m0 m1 m2 m3 u1 u2 : Int) (tx : ByteArray) (q : Nat) (a : Act) (wq : World) (Q : Exit → Act → World → Prop) (hz : a.tmps.size = 359) (hd : a.defers = []) (h3 : sl a 3 = .string tx) (h7 : sl a 7 = .pointer (some ⟨b7, 0, none⟩)) (h12 : sl a 12 = .slice (some ⟨g5, o5, none⟩) 4 c5) (h14 : sl a 14 = .pointer (some ⟨b14, 0, none⟩)) (h19 : sl a 19 = .pointer (some ⟨b1, 0, none⟩)) (h21 : sl a 21 = .pointer (some ⟨b2, 0, none⟩)) (h25 : sl a 25 = .int .i64 (q : Nat)) (hm : ok4 (m0, m1, m2, m3)) (hnc : rn ≤ rc) (hcc : rc ≤ 9223372036854775807) (hll : l.length = rn) (hc54 : 4 ≤ c5) (hc5' : c5 ≤ 9223372036854775807) (hle19 : w14.heap.size ≤ b1) (hb12 : b1 < b2) (hl20 : b2 < b3)
    (hqq : ∀ W, Below w14.heap.size w14 W → Bx W b14 rP rA rn rc l ∧ Fo W (some ⟨g5, o5, none⟩) c5 es L ∧ Blk W b7 26 [.int .i64 m0, .int .i64 m1, .int .i64 m2, .int .i64 m3] ∧ RL W ∧ Below wL.heap.size wL W) (hq4 : q < 4) (hst : St w14 b1 b2 b3 39 [.int .i64 m1, .int .i64 m2, .int .i64 u1, .int .i64 (1 + u2)] wq)
    (hQ : ∀ (a' : Act) (W : World), Kp [4, 11, 13, 3, 7, 12, 14, 19, 21, 25] a a' → St w14 b1 b2 b3 39 [.int .i64 m1, .int .i64 m2, .int .i64 u1, .int .i64 (1 + u2)] W → Q .normal a' W) : (blk 5).wp Tryz.prog Q a wq := by
  conv => arg 2; whnf
  obtain ⟨u, rfl⟩ : ∃ u, a = frm u := ⟨sl a, act_frm hz hd⟩
  clear hz hd
  rw [sl_frm u 3 (by decide)] at h3
  rw [sl_frm u 7 (by decide)] at h7
  rw [sl_frm u 12 (by decide)] at h12
  rw [sl_frm u 14 (by decide)] at h14
  rw [sl_frm u 19 (by decide)] at h19
  rw [sl_frm u 21 (by decide)] at h21
  rw [sl_frm u 25 (by decide)] at h25
  have H3 := hide h3
  have H7 := hide h7
  have H12 := hide h12
  have H14 := hide h14
  have H19 := hide h19
  have H21 := hide h21
  have H25 := hide h25
  have HQ0 := hide hQ
  unfold frm
  rw [h3, h7, h12, h14, h19, h21, h25]
  clear hQ h3 h7 h12 h14 h19 h21 h25
  have HMk := hide hm
  have HQ := hide hqq
  have HLn := hide hll
  clear hm hqq hll
  have hqi : (q : Int) < 4 := by omega
  have HST := hide hst
  have hl22q := hst.x3.lt
  obtain ⟨f, hf⟩ : ∃ e, es[q]! = e := ⟨_, rfl⟩
  obtain ⟨j, hj⟩ : ∃ e, L[q]! = e := ⟨_, rfl⟩
  obtain ⟨qP, qA, qn, qc⟩ := f
  have HJ : Hid (∀ W, Below w14.heap.size w14 W → W.cell? ⟨g5, o5 + q * 2, none⟩ = some (.int .i64 qP) ∧ W.cell? ⟨g5, o5 + q * 2 + 1, none⟩ = some (.slice qA qn qc) ∧ SlR W W.heap.size 7 qA qn (j.flatMap cR)) := hide (fun W h => by
    have hF := (HQ.out W h).2.1
    have h1 := hF.cells hq4
    have h2 := (hF.ok q hq4).slr
    rw [hf] at h1 h2
    rw [hj] at h2
    exact ⟨h1.1, h1.2, h2⟩)
  have hqn : qn ≤ 9223372036854775807 := by
    have h2 := (HQ.out w14 (Below.refl _ _)).2.1.ok q hq4
    have h3 := h2.hnc
    have h4 := h2.hc
    rw [hf] at h3 h4
    dsimp only at h3 h4
    omega
  clear hf hj hst
  obtain ⟨KK, HK, HK0, HKx⟩ : ∃ KK : World → Prop, Hid (KW w14 b1 b2 KK) ∧ Hid (KK wq) ∧ Hid (∀ W, KK W → St w14 b1 b2 b3 39 [.int .i64 m1, .int .i64 m2, .int .i64 u1, .int .i64 (1 + u2)] W) := ⟨_, hide (St.kw 39 [.int .i64 m1, .int .i64 m2, .int .i64 u1, .int .i64 (1 + u2)] hle19 hb12 hl20), hide HST.out, hide (fun W h => h)⟩
  clear HST
  obtain ⟨o6, ho6⟩ : ∃ o, mrgM rP l qP j = o := ⟨_, rfl⟩
  obtain ⟨n6, hn6⟩ : ∃ n, (oL o6).length = n := ⟨_, rfl⟩
  obtain ⟨e6, he6⟩ : ∃ e, oE o6 = e := ⟨_, rfl⟩
  obtain ⟨p6, hp6⟩ : ∃ e, oP rP o6 = e := ⟨_, rfl⟩
  have HN6 := hide (And.intro ho6 (And.intro hn6 (And.intro he6 hp6)))
  clear ho6 hn6 he6 hp6
  obtain ⟨o7, ho7⟩ : ∃ o, behM rP l qP j = o := ⟨_, rfl⟩
  obtain ⟨n7, hn7⟩ : ∃ n, (oL o7).length = n := ⟨_, rfl⟩
  obtain ⟨e7, he7⟩ : ∃ e, oE o7 = e := ⟨_, rfl⟩
  have HN7 := hide (And.intro ho7 (And.intro hn7 he7))
  clear ho7 hn7 he7
  have HS : Hid (∀ W, KK W → W.cell? ⟨b14, 0, none⟩ = some (.int .i64 rP) ∧ W.cell? ⟨b14, 1, none⟩ = some (.slice rA rn rc) ∧ W.cell? ⟨g5, o5 + q * 2, none⟩ = some (.int .i64 qP) ∧ W.cell? ⟨g5, o5 + q * 2 + 1, none⟩ = some (.slice qA qn qc) ∧ KK W) := hide (fun W h => by
    have hb := HK.out.bel h
    obtain ⟨x0, x1, -⟩ := (HQ.out W hb).1.cells
    obtain ⟨z0, z1, -⟩ := HJ.out W hb
    exact ⟨x0, x1, z0, z1, h⟩)
  have HGv : Hid (∀ W, KK W → Calls Tryz.prog 26 #[.agg #[.int .i64 rP, .slice rA rn rc], .agg #[.int .i64 qP, .slice qA qn qc]] W (RepPost rP o6 W)) := hide (fun W h => by
    have hb := HK.out.bel h
    rw [← HN6.out.1]
    exact c_pMerge rP rA rn rc l qP qA qn qc j W (HQ.out W hb).2.2.2.1 (by omega) hqn (HQ.out W hb).1.slr (HJ.out W hb).2.2)
  go_wp2_with fail
  go_cut [20] from 208 to 216 (fun u wx => u = .int .i64 e6 ∧ ∃ A c, Hid (Bx wx b1 p6 A n6 c (oL o6)) ∧ Hid (KK wx))
  case first =>
    go_region_held3 (fun W => W.cell? ⟨b14, 0, none⟩ = some (.int .i64 rP) ∧ W.cell? ⟨b14, 1, none⟩ = some (.slice rA rn rc) ∧ W.cell? ⟨g5, o5 + q * 2, none⟩ = some (.int .i64 qP) ∧ W.cell? ⟨g5, o5 + q * 2 + 1, none⟩ = some (.slice qA qn qc) ∧ KK W)
      (first | exact HS.out _ HK0.out | exact HS.out _ (HK.out.drew HK0.out) | exact HS.out _ h8 | exact HS.out _ (HK.out.s1 h8 _ _) | (go_split_ands; first | exact HS.out _ (by assumption) | exact HS.out _ (HK.out.next (by assumption) (by assumption))))
      (((go_split_ands; go_at_call 26; refine (HGv.out _ (by assumption)).mono ?_; rintro e w8 hp; obtain ⟨hb8, A8, c8, rfl, hk1, hk2, hsn⟩ := RepPost.un HN6.out.2 hp; clear hp; have h8 : KK w8 := HK.out.next (by assumption) hb8; obtain ⟨xx, yy, gB⟩ := HK.out.x1 h8; obtain ⟨q0, q1, q2, q3⟩ := gB.all2; have q4 := gB.lt)))
    all_goals
      go_wp2_with fail
      go_meet
      exact ⟨rfl, A8, c8, hide (hsn.put gB hk1 hk2), hide (HK.out.s1 h8 _ _)⟩
  case rest =>
    obtain ⟨wB, rfl⟩ : ∃ wB, wB = wc := ⟨_, rfl⟩
    obtain ⟨rfl, A3, c3, hB3, hK3⟩ := hcut
    obtain ⟨K3, HK3, HK30⟩ : ∃ K3 : World → Prop, Hid (KW2 w14 b1 b2 p6 A3 n6 c3 (oL o6) KK K3) ∧ Hid (K3 wB) := ⟨_, hide (KW.two HK.out hb12 p6 A3 n6 c3 (oL o6)), hide ⟨hK3.out, hB3.out⟩⟩
    clear hB3 hK3 HS HGv HK0
    have HS : Hid (∀ W, K3 W → W.cell? ⟨b14, 0, none⟩ = some (.int .i64 rP) ∧ W.cell? ⟨b14, 1, none⟩ = some (.slice rA rn rc) ∧ W.cell? ⟨g5, o5 + q * 2, none⟩ = some (.int .i64 qP) ∧ W.cell? ⟨g5, o5 + q * 2 + 1, none⟩ = some (.slice qA qn qc) ∧ K3 W) := hide (fun W h => by
      have hb := HK3.out.bel h
      have h0 := h
      have h := HK3.out.k h
      obtain ⟨x0, x1, -⟩ := (HQ.out W hb).1.cells
      obtain ⟨z0, z1, -⟩ := HJ.out W hb
      exact ⟨x0, x1, z0, z1, h0⟩)
    have HGv : Hid (∀ W, K3 W → Calls Tryz.prog 27 #[.agg #[.int .i64 rP, .slice rA rn rc], .agg #[.int .i64 qP, .slice qA qn qc]] W (RepPost rP o6 W)) := hide (fun W h => by
      have hb := HK3.out.bel h
      have h := HK3.out.k h
      rw [← HN6.out.1]
      exact c_rMerge rP rA rn rc l qP qA qn qc j W (by omega) hqn (HQ.out W hb).1.slr (HJ.out W hb).2.2)
    go_upto_region 32 with (fail)
    go_cut [22] from 217 to 225 (fun u wx => u = .int .i64 e6 ∧ ∃ A c, Hid (Bx wx b2 p6 A n6 c (oL o6)) ∧ Hid (K3 wx))
    case first =>
      go_region_held3 (fun W => W.cell? ⟨b14, 0, none⟩ = some (.int .i64 rP) ∧ W.cell? ⟨b14, 1, none⟩ = some (.slice rA rn rc) ∧ W.cell? ⟨g5, o5 + q * 2, none⟩ = some (.int .i64 qP) ∧ W.cell? ⟨g5, o5 + q * 2 + 1, none⟩ = some (.slice qA qn qc) ∧ K3 W)
        (first | exact HS.out _ HK30.out | exact HS.out _ (HK3.out.drew HK30.out) | exact HS.out _ h8 | exact HS.out _ (HK3.out.s2 h8 _ _) | (go_split_ands; first | exact HS.out _ (by assumption) | exact HS.out _ (HK3.out.next (by assumption) (by assumption))))
        (((go_split_ands; go_at_call 27; refine (HGv.out _ (by assumption)).mono ?_; rintro e w8 hp; obtain ⟨hb8, A8, c8, rfl, hk1, hk2, hsn⟩ := RepPost.un HN6.out.2 hp; clear hp; have h8 : K3 w8 := HK3.out.next (by assumption) hb8; obtain ⟨xx, yy, gB⟩ := HK3.out.x2 h8; obtain ⟨q0, q1, q2, q3⟩ := gB.all2; have q4 := gB.lt)))
      all_goals
        go_wp2_with fail
        go_meet
        exact ⟨rfl, A8, c8, hide (hsn.put gB hk1 hk2), hide (HK3.out.s2 h8 _ _)⟩
    case rest =>
      obtain ⟨wC, rfl⟩ : ∃ wC, wC = wc := ⟨_, rfl⟩
      obtain ⟨rfl, A4, c4, hB4, hK4⟩ := hcut
      clear HS HGv HK30
      have HS : Hid (∀ W, Below wC.heap.size wC W → W.cell? ⟨b14, 0, none⟩ = some (.int .i64 rP) ∧ W.cell? ⟨b14, 1, none⟩ = some (.slice rA rn rc) ∧ W.cell? ⟨g5, o5 + q * 2, none⟩ = some (.int .i64 qP) ∧ W.cell? ⟨g5, o5 + q * 2 + 1, none⟩ = some (.slice qA qn qc) ∧ Below wC.heap.size wC W) := hide (fun W h0 => by
        have h := HK3.out.k (HK3.out.next hK4.out h0)
        have hb := HK.out.bel h
        obtain ⟨x0, x1, -⟩ := (HQ.out W hb).1.cells
        obtain ⟨z0, z1, -⟩ := HJ.out W hb
        exact ⟨x0, x1, z0, z1, h0⟩)
      have HGv : Hid (∀ W, Below wC.heap.size wC W → Calls Tryz.prog 28 #[.agg #[.int .i64 rP, .slice rA rn rc], .agg #[.int .i64 qP, .slice qA qn qc]] W (BehPost o7 W)) := hide (fun W h0 => by
        have h := HK3.out.k (HK3.out.next hK4.out h0)
        have hb := HK.out.bel h
        rw [← HN7.out.1]
        exact c_pBehind rP rA rn rc l qP qA qn qc j W (HQ.out W hb).2.2.2.1 (by omega) hqn (HQ.out W hb).1.slr (HJ.out W hb).2.2)
      go_upto_region 33 with (fail)
      go_cut [15, 16] from 226 to 234 (fun u v wx => ∃ A c, u = .slice A n7 c ∧ v = .int .i64 e7 ∧ n7 ≤ c ∧ c ≤ 9223372036854775807 ∧ Hid (SlR wx wx.heap.size 7 A n7 ((oL o7).flatMap cR)) ∧ Hid (Below wC.heap.size wC wx))
      case first =>
        go_region_held3 (fun W => W.cell? ⟨b14, 0, none⟩ = some (.int .i64 rP) ∧ W.cell? ⟨b14, 1, none⟩ = some (.slice rA rn rc) ∧ W.cell? ⟨g5, o5 + q * 2, none⟩ = some (.int .i64 qP) ∧ W.cell? ⟨g5, o5 + q * 2 + 1, none⟩ = some (.slice qA qn qc) ∧ Below wC.heap.size wC W)
          (first | exact HS.out _ (by assumption) | exact HS.out _ (bdrew (Below.refl _ _)) | exact HS.out _ h8 | (go_split_ands; first | exact HS.out _ (by assumption) | exact HS.out _ (bthen (by assumption) (by assumption))))
          ((go_split_ands; go_at_call 28; refine (HGv.out _ (by assumption)).mono ?_; rintro e w8 hp; obtain ⟨hb8, A8, c8, rfl, hk1, hk2, hsn⟩ := BehPost.un HN7.out.2 hp; clear hp; have h8 : Below wC.heap.size wC w8 := bthen (by assumption) hb8))
        all_goals
          go_wp2_with fail
          go_meet
          exact ⟨A8, c8, rfl, rfl, hk1, hk2, hide (hsn.1.to' (Below.refl _ _)), hide h8⟩
      case rest =>
        obtain ⟨wD, rfl⟩ : ∃ wD, wD = wc := ⟨_, rfl⟩
        obtain ⟨A5, c5, rfl, rfl, h51, h52, h5, hbD⟩ := hcut
        clear HS HGv
        have HS : Hid (∀ W, Below wD.heap.size wD W → W.cell? ⟨b14, 0, none⟩ = some (.int .i64 rP) ∧ W.cell? ⟨b14, 1, none⟩ = some (.slice rA rn rc) ∧ W.cell? ⟨g5, o5 + q * 2, none⟩ = some (.int .i64 qP) ∧ W.cell? ⟨g5, o5 + q * 2 + 1, none⟩ = some (.slice qA qn qc) ∧ Below wD.heap.size wD W) := hide (fun W h0 => by
          have h := HK3.out.k (HK3.out.next hK4.out (bthen hbD.out h0))
          have hb := HK.out.bel h
          obtain ⟨x0, x1, -⟩ := (HQ.out W hb).1.cells
          obtain ⟨z0, z1, -⟩ := HJ.out W hb
          exact ⟨x0, x1, z0, z1, h0⟩)
        have HGv : Hid (∀ W, Below wD.heap.size wD W → Calls Tryz.prog 29 #[.agg #[.int .i64 rP, .slice rA rn rc], .agg #[.int .i64 qP, .slice qA qn qc]] W (BehPost o7 W)) := hide (fun W h0 => by
          have h := HK3.out.k (HK3.out.next hK4.out (bthen hbD.out h0))
          have hb := HK.out.bel h
          rw [← HN7.out.1]
          exact c_rBehind rP rA rn rc l qP qA qn qc j W (by omega) hqn (HQ.out W hb).1.slr (HJ.out W hb).2.2)
        go_upto_region 34 with (fail)
        go_cut [17, 18] from 235 to 243 (fun u v wx => ∃ A c, u = .slice A n7 c ∧ v = .int .i64 e7 ∧ n7 ≤ c ∧ c ≤ 9223372036854775807 ∧ Hid (SlR wx wx.heap.size 7 A n7 ((oL o7).flatMap cR)) ∧ Hid (Below wD.heap.size wD wx))
        case first =>
          go_region_held3 (fun W => W.cell? ⟨b14, 0, none⟩ = some (.int .i64 rP) ∧ W.cell? ⟨b14, 1, none⟩ = some (.slice rA rn rc) ∧ W.cell? ⟨g5, o5 + q * 2, none⟩ = some (.int .i64 qP) ∧ W.cell? ⟨g5, o5 + q * 2 + 1, none⟩ = some (.slice qA qn qc) ∧ Below wD.heap.size wD W)
            (first | exact HS.out _ (by assumption) | exact HS.out _ (bdrew (Below.refl _ _)) | exact HS.out _ h8 | (go_split_ands; first | exact HS.out _ (by assumption) | exact HS.out _ (bthen (by assumption) (by assumption))))
            ((go_split_ands; go_at_call 29; refine (HGv.out _ (by assumption)).mono ?_; rintro e w8 hp; obtain ⟨hb8, A8, c8, rfl, hk1, hk2, hsn⟩ := BehPost.un HN7.out.2 hp; clear hp; have h8 : Below wD.heap.size wD w8 := bthen (by assumption) hb8))
          all_goals
            go_wp2_with fail
            go_meet
            exact ⟨A8, c8, rfl, rfl, hk1, hk2, hide (hsn.1.to' (Below.refl _ _)), hide h8⟩
        case rest =>
          obtain ⟨wE, rfl⟩ : ∃ wE, wE = wc := ⟨_, rfl⟩
          obtain ⟨A6, c6, rfl, rfl, h61, h62, h6, hbE⟩ := hcut
          have HE : Hid (∀ W, Below wE.heap.size wE W → SlR W W.heap.size 7 A5 n7 ((oL o7).flatMap cR) ∧ SlR W W.heap.size 7 A6 n7 ((oL o7).flatMap cR) ∧ K3 W ∧ Bx W b2 p6 A4 n6 c4 (oL o6)) := hide (fun W h => ⟨h5.out.to' (bthen hbE.out h), h6.out.to' h, HK3.out.next hK4.out (bthen hbD.out (bthen hbE.out h)), hB4.out.to (bthen hbD.out (bthen hbE.out h))⟩)
          clear HS HGv h5 h6 hbD hbE hB4 hK4
          have hs1 : Hid (∀ W, Below wE.heap.size wE W → Calls Tryz.prog 20 #[.agg #[.int .i64 p6, .slice A3 n6 c3], .agg #[.int .i64 p6, .slice A4 n6 c4]] W fun e w' => e = .returned (.bool true) ∧ Below W.heap.size W w') := hide (fun W h => by
            have g := (HK3.out.bx (HE.out W h).2.2.1)
            have g2 := (HE.out W h).2.2.2
            have := c_rSame p6 A3 n6 c3 (oL o6) p6 A4 n6 c4 (oL o6) W (by have := g.hnc; have := g.hc; omega) (by have := g.hnc; have := g.hc; omega) g.slr g2.slr
            rw [decide_eq_true rfl, decide_eq_true rfl] at this
            exact this)
          have hs2 : Hid (∀ W, Below wE.heap.size wE W → Calls Tryz.prog 15 #[.slice A5 n7 c5, .slice A6 n7 c6] W fun e w' => e = .returned (.bool true) ∧ Below W.heap.size W w') := hide (fun W h => by
            have := c_rSameRecords A5 n7 c5 (oL o7) A6 n7 c6 (oL o7) W (by omega) (by omega) (HE.out W h).1 (HE.out W h).2.1
            rw [decide_eq_true rfl] at this
            exact this)
          obtain ⟨sb, hsb⟩ : ∃ b, (decide (rP = qP) && decide (l = j)) = b := ⟨_, rfl⟩
          have hs3 : Hid (∀ W, Below wE.heap.size wE W → Calls Tryz.prog 30 #[.agg #[.int .i64 rP, .slice rA rn rc], .agg #[.int .i64 qP, .slice qA qn qc]] W fun e w' => e = .returned (.bool sb) ∧ Below W.heap.size W w') := hide (fun W h => by
            have hb := HK.out.bel (HK3.out.k (HE.out W h).2.2.1)
            have := c_pSame rP rA rn rc l qP qA qn qc j W (by omega) hqn (HQ.out W hb).1.slr (HJ.out W hb).2.2
            rw [hsb] at this
            exact this)
          have hs4 : Hid (∀ W, Below wE.heap.size wE W → Calls Tryz.prog 20 #[.agg #[.int .i64 rP, .slice rA rn rc], .agg #[.int .i64 qP, .slice qA qn qc]] W fun e w' => e = .returned (.bool sb) ∧ Below W.heap.size W w') := hide (fun W h => by
            have hb := HK.out.bel (HK3.out.k (HE.out W h).2.2.1)
            have := c_rSame rP rA rn rc l qP qA qn qc j W (by omega) hqn (HQ.out W hb).1.slr (HJ.out W hb).2.2
            rw [hsb] at this
            exact this)
          clear hsb
          have hbE := fun x : BW wE => HK.out.bel (HK3.out.k (HE.out x.val x.ok).2.2.1)
          have f0 := fun x : BW wE => (HK3.out.bx (HE.out x.val x.ok).2.2.1).cells.1
          have f1 := fun x : BW wE => (HK3.out.bx (HE.out x.val x.ok).2.2.1).cells.2.1
          have f2 := fun x : BW wE => (HE.out x.val x.ok).2.2.2.cells.1
          have f3 := fun x : BW wE => (HE.out x.val x.ok).2.2.2.cells.2.1
          have f4 := fun x : BW wE => (HQ.out x.val (hbE x)).1.cells.1
          have f5 := fun x : BW wE => (HQ.out x.val (hbE x)).1.cells.2.1
          have f6 := fun x : BW wE => (HJ.out x.val (hbE x)).1
          have f7 := fun x : BW wE => (HJ.out x.val (hbE x)).2.1
          clear hbE
          go_wp2_with fail
          refine wp_region_bw wE (Below.refl _ _) (by kernel_rfl) (by kernel_rfl) ?_
          repeat (go_big_quiet_step (first | (go_at_call 20; with_reducible exact bw_call (hs1.out _ (BW.ok _))) | (go_at_call 20; with_reducible exact bw_call (hs4.out _ (BW.ok _))) | (go_at_call 15; exact bw_call (hs2.out _ (BW.ok _))) | (go_at_call 30; exact bw_call (hs3.out _ (BW.ok _)))))
          refine wpQuiet_nil ?_
          intro w17 hb17
          have HB17 := hide hb17
          clear hb17 f0 f1 f2 f3 f4 f5 f6 f7 hs1 hs2 hs3 hs4
          go_wp2_with fail
          refine HQ0.out _ _ ?_ (HKx.out _ (HK3.out.k (HE.out _ HB17.out).2.2.1))
          exact ⟨rfl, rfl, fun i hi => by
              simp only [List.mem_cons, List.not_mem_nil, or_false] at hi
              rcases hi with rfl | rfl | rfl | rfl | rfl | rfl | rfl | rfl | rfl | rfl <;> first | rfl | exact H3.out.symm | exact H7.out.symm | exact H12.out.symm | exact H14.out.symm | exact H19.out.symm | exact H21.out.symm | exact H25.out.symm⟩
set_option linter.unusedSimpArgs false in
set_option linter.unusedVariables false in
set_option maxRecDepth 100000 in
set_option maxHeartbeats 16000000 in
/-- the third loop -/
theorem lp4 (w14 wL : World) (b1 b2 b3 b7 b14 : Nat) (rP : Int) (rA : Option Addr) (rn rc : Nat) (l : List Rc) (g5 o5 c5 : Nat) (es : List En) (L : List (List Rc)) (m0 m1 m2 m3 u1 u2 : Int) (tx : ByteArray) (a : Act) (wq : World) (Q : Exit → Act → World → Prop) (hz : a.tmps.size = 359) (hd : a.defers = []) (h3 : sl a 3 = .string tx) (h7 : sl a 7 = .pointer (some ⟨b7, 0, none⟩)) (h12 : sl a 12 = .slice (some ⟨g5, o5, none⟩) 4 c5) (h14 : sl a 14 = .pointer (some ⟨b14, 0, none⟩)) (h19 : sl a 19 = .pointer (some ⟨b1, 0, none⟩)) (h21 : sl a 21 = .pointer (some ⟨b2, 0, none⟩)) (h25 : sl a 25 = .int .i64 (0 : Nat)) (hm : ok4 (m0, m1, m2, m3)) (hnc : rn ≤ rc) (hcc : rc ≤ 9223372036854775807) (hll : l.length = rn) (hc54 : 4 ≤ c5) (hc5' : c5 ≤ 9223372036854775807) (hle19 : w14.heap.size ≤ b1) (hb12 : b1 < b2) (hl20 : b2 < b3)
    (hqq : ∀ W, Below w14.heap.size w14 W → Bx W b14 rP rA rn rc l ∧ Fo W (some ⟨g5, o5, none⟩) c5 es L ∧ Blk W b7 26 [.int .i64 m0, .int .i64 m1, .int .i64 m2, .int .i64 m3] ∧ RL W ∧ Below wL.heap.size wL W) (hst : St w14 b1 b2 b3 39 [.int .i64 m1, .int .i64 m2, .int .i64 u1, .int .i64 (1 + u2)] wq)
    (hQ : ∀ (a' : Act) (W : World), Kp [4, 11, 13, 3, 7, 12, 14, 19, 21] a a' → St w14 b1 b2 b3 39 [.int .i64 m1, .int .i64 m2, .int .i64 u1, .int .i64 (1 + u2)] W → Q .normal a' W) : (blk 4).wp Tryz.prog Q a wq := by
  conv => arg 2; whnf
  rw [show Code.block 5 _ = blk 5 from rfl]
  have HMk := hide hm
  have HQ := hide hqq
  have HLn := hide hll
  clear hm hqq hll
  refine wp_block (wp_loop_ghost_k (fun n a' W => ∃ q : Nat, q + n = 4 ∧ Kp [4, 11, 13, 3, 7, 12, 14, 19, 21] a a' ∧ sl a' 25 = .int .i64 q ∧ St w14 b1 b2 b3 39 [.int .i64 m1, .int .i64 m2, .int .i64 u1, .int .i64 (1 + u2)] W) 4 ⟨0, by omega, Kp.refl hz hd, h25, hst⟩ ?_)
  rintro n a1 W ⟨q, hq, hK, hs, hst⟩ J K hJ hKK
  obtain ⟨u, rfl⟩ : ∃ u, a1 = frm u := ⟨sl a1, act_frm hK.1 hK.2.1⟩
  have e3 := (sl_frm u 3 (by decide)).symm.trans ((hK.2.2 3 (by decide)).trans h3)
  have e7 := (sl_frm u 7 (by decide)).symm.trans ((hK.2.2 7 (by decide)).trans h7)
  have e12 := (sl_frm u 12 (by decide)).symm.trans ((hK.2.2 12 (by decide)).trans h12)
  have e14 := (sl_frm u 14 (by decide)).symm.trans ((hK.2.2 14 (by decide)).trans h14)
  have e19 := (sl_frm u 19 (by decide)).symm.trans ((hK.2.2 19 (by decide)).trans h19)
  have e21 := (sl_frm u 21 (by decide)).symm.trans ((hK.2.2 21 (by decide)).trans h21)
  have e25 := (sl_frm u 25 (by decide)).symm.trans hs
  have HK := hide hK
  have HJ := hide hJ
  have HQ0 := hide hQ
  have HST := hide hst
  have H3 := hide e3
  have H7 := hide e7
  have H12 := hide e12
  have H14 := hide e14
  have H19 := hide e19
  have H21 := hide e21
  have H25 := hide e25
  clear hK hJ hQ hs hst h3 h7 h12 h14 h19 h21 h25
  unfold frm
  rw [e3, e7, e12, e14, e19, e21, e25]
  clear e3 e7 e12 e14 e19 e21 e25
  by_cases hlt : q < 4
  · have hlt' : (q : Int) < 4 := by omega
    go_wp2_with fail
    rename_i K2 hK2
    refine rnd5 w14 wL b1 b2 b3 b7 b14 rP rA rn rc l g5 o5 c5 es L m0 m1 m2 m3 u1 u2 tx q _ W _ (by rfl) (by rfl) (by rfl) (by rfl) (by rfl) (by rfl) (by rfl) (by rfl) (by rfl) HMk.out hnc hcc HLn.out hc54 hc5' hle19 hb12 hl20 HQ.out hlt HST.out ?_
    intro a2 W2 hK' hst2
    have HS2 := hide hst2
    have h1 : Kp [4, 11, 13, 3, 7, 12, 14, 19, 21] a a2 := (HK.out.trans (by exact ⟨rfl, rfl, fun i hi => by
    simp only [List.mem_cons, List.not_mem_nil, or_false] at hi
    rcases hi with rfl | rfl | rfl | rfl | rfl | rfl | rfl | rfl | rfl <;> first | rfl | exact H3.out.symm | exact H7.out.symm | exact H12.out.symm | exact H14.out.symm | exact H19.out.symm | exact H21.out.symm⟩ : Kp [4, 11, 13, 3, 7, 12, 14, 19, 21] (frm u) _)).trans (hK'.sub (by rfl))
    have hs' : sl a2 25 = .int .i64 q := (hK'.2.2 25 (by decide)).trans rfl
    clear hK' hst2
    refine hK2 _ _ ?_
    obtain ⟨u2, rfl⟩ : ∃ u2, a2 = frm u2 := ⟨sl a2, act_frm h1.1 h1.2.1⟩
    have e := (sl_frm u2 25 (by decide)).symm.trans hs'
    have HE2 := hide e
    have H1 := hide h1
    clear hs' h1 hK2
    unfold frm
    rw [e]
    clear e
    go_wp2_with fail
    refine Handed.intro (n - 1) (by omega) (HJ.out _ _ _ ⟨q + 1, by omega, H1.out.trans ?_, ?_, HS2.out⟩)
    · exact ⟨rfl, rfl, fun i hi => by
    simp only [List.mem_cons, List.not_mem_nil, or_false] at hi
    rcases hi with rfl | rfl | rfl | rfl | rfl | rfl | rfl | rfl | rfl <;> first | rfl | exact HE2.out.symm⟩
    · first | rfl | (show Value.int .i64 _ = Value.int .i64 _; congr 1; omega)
  · obtain rfl : 4 = q := by omega
    go_wp2_with fail
    refine HQ0.out _ _ (HK.out.trans ?_) HST.out
    exact ⟨rfl, rfl, fun i hi => by
    simp only [List.mem_cons, List.not_mem_nil, or_false] at hi
    rcases hi with rfl | rfl | rfl | rfl | rfl | rfl | rfl | rfl | rfl <;> first | rfl | exact H3.out.symm | exact H7.out.symm | exact H12.out.symm | exact H14.out.symm | exact H19.out.symm | exact H21.out.symm⟩
end Go.Proofs.YtcfbgelhggapjaaGreatDoor
