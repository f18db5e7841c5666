/- Replica: the law against the reference. -/
import Derived.Test.YtcfbgelhggapjaaGreatDoorQ25
import Derived.Test.YtcfbgelhggapjaaGreatDoorQ22
import Derived.ChangeMaps5
namespace Go.Proofs.YtcfbgelhggapjaaGreatDoor
open Go.RowKit Go.Shelf
set_option linter.unusedSimpArgs false in
set_option maxRecDepth 100000 in
set_option maxHeartbeats 16000000 in
theorem c_Matches (A : Option Addr) (N c : Nat) (xs : List I4) (rp : Int) (RA : Option Addr) (Rn Rc' : Nat) (rl : List Rc) (m0 m1 m2 m3 : Int) (text s : ByteArray) (w : World) (hR : RL w) (hN : N ≤ 9223372036854775807) (hx : ∀ x ∈ xs, ok4 x) (hl : xs.length = N) (hr : SlR w w.heap.size 4 A xs.length (xs.flatMap c4))
    (hRn : Rn ≤ 9223372036854775807) (hrl : SlR w w.heap.size 7 RA Rn (rl.flatMap cR)) (hm : ok4 (m0, m1, m2, m3)) :
    Calls Tryz.prog 3 #[.slice A N c, .agg #[.int .i64 rp, .slice RA Rn Rc'], .agg #[.int .i64 m0, .int .i64 m1, .int .i64 m2, .int .i64 m3], .string text, .string s] w fun e w' => e = .returned (.bool true) ∧ Below w.heap.size w w' := by
  have hw0 := hR.lt
  have HRw := hide hR
  have HX := hide (And.intro hx (And.intro hl hr))
  have HRL := hide hrl
  have HMk := hide hm
  clear hx hl hr hrl hm
  have hmn : ((min (text.size : Int) 20) : Int) = ((min text.size 20 : Nat) : Int) := by omega
  have hmn2 : (min text.size 20 : Nat) ≤ text.size := by omega
  have hmn3 : ((min (s.size : Int) 60) : Int) = ((min s.size 60 : Nat) : Int) := by omega
  have hmn4 : (min s.size 60 : Nat) ≤ s.size := by omega
  have g6 := (Blk.new w 25 [.int .i64 rp, .slice RA Rn Rc']).alloc (.cells #[.int .i64 m0, .int .i64 m1, .int .i64 m2, .int .i64 m3] 26)
  have g7 : Blk ((w.alloc (.cells #[.int .i64 rp, .slice RA Rn Rc'] 25)).alloc (.cells #[.int .i64 m0, .int .i64 m1, .int .i64 m2, .int .i64 m3] 26)) (w.heap.size + 1) 26 [.int .i64 m0, .int .i64 m1, .int .i64 m2, .int .i64 m3] := by
    have := Blk.new (w.alloc (.cells #[.int .i64 rp, .slice RA Rn Rc'] 25)) 26 [.int .i64 m0, .int .i64 m1, .int .i64 m2, .int .i64 m3]
    simpa using this
  have hb0 := balloc (balloc (Below.refl w.heap.size w) (.cells #[.int .i64 rp, .slice RA Rn Rc'] 25)) (.cells #[.int .i64 m0, .int .i64 m1, .int .i64 m2, .int .i64 m3] 26)
  go_enter Tryz.func3, Tryz.ntmps3
  rw [show Code.block 0 _ = blk 0 from rfl]
  go_upto_region 1 with (fail)
  generalize (w.alloc (.cells #[.int .i64 rp, .slice RA Rn Rc'] 25)).alloc (.cells #[.int .i64 m0, .int .i64 m1, .int .i64 m2, .int .i64 m3] 26) = w0 at *
  have HB0 := hide hb0
  have HG : Hid (∀ W, Below w0.heap.size w0 W → Blk W w.heap.size 25 [.int .i64 rp, .slice RA Rn Rc'] ∧ Blk W (w.heap.size + 1) 26 [.int .i64 m0, .int .i64 m1, .int .i64 m2, .int .i64 m3] ∧ RL W ∧ Below w.heap.size w W) := hide (fun W h => ⟨g6.below h g6.lt, g7.below h g7.lt, HRw.out.to' (bthen HB0.out h), bthen HB0.out h⟩)
  clear g6 g7 hb0
  go_upto_region 2 with (go_at_call 10; refine (c_lsane w0 (HG.out w0 (Below.refl _ _)).2.2.1).mono ?_; rintro e w1 ⟨rfl, hb1⟩; have HB1 := hide hb1; clear hb1)
  go_upto_region 5 with (fail)
  obtain ⟨tx, htx⟩ : ∃ tx, text.extract 0 (min text.size 20) = tx := ⟨_, rfl⟩
  try rw [htx]
  clear htx hmn hmn2
  have HS : Hid (∀ W, Below w1.heap.size w1 W → W.cell? ⟨w.heap.size, 0, none⟩ = some (.int .i64 rp) ∧ W.cell? ⟨w.heap.size, 1, none⟩ = some (.slice RA Rn Rc')) := hide (fun W h => ⟨(HG.out W (bthen HB1.out h)).1.all2.1, (HG.out W (bthen HB1.out h)).1.all2.2.1⟩)
  obtain ⟨j0, hj0, hz0, hz1, hz2⟩ := info_parts Tryz.infoRep
  go_cut [12] from 43 to 48 (fun v wx => ∃ A' c' es, v = .slice A' 4 c' ∧ Hid (Fo wx A' c' es (madL xs ++ [fewL rl])) ∧ Below w1.heap.size w1 wx)
  case first =>
    refine wp_region_held_drew (S := fun W => W.cell? ⟨w.heap.size, 0, none⟩ = some (.int .i64 rp) ∧ W.cell? ⟨w.heap.size, 1, none⟩ = some (.slice RA Rn Rc')) (by kernel_rfl) (HS.out _ (bdrew (Below.refl _ _))) (fun hHeld => ?_)
    refine wpAnyH_take (i := 0) (v := ?_) rfl (by kernel_rfl) (by kernel_rfl) (by kernel_rfl) (fun _ _ _ h => h) (Or.inl ⟨by rfl, ?hy1⟩) (by assumption) ?rs1
    case hy1 => (intro w hSw; (try dsimp only at hSw); go_simp; try (with_reducible rfl))
    (try simp only [Act.put, List.setIfInBounds_toArray, List.set_cons_zero, List.set_cons_succ, List.getElem_toArray, List.getElem_cons_zero, List.getElem_cons_succ])
    refine wpAnyH_take (i := 2) (v := ?_) rfl (by kernel_rfl) (by kernel_rfl) (by kernel_rfl) (fun _ _ _ h => h) (Or.inl ⟨by rfl, ?hy2⟩) (by assumption) ?rs2
    case hy2 => (intro w hSw; (try dsimp only at hSw); go_simp; try (with_reducible rfl))
    (try simp only [Act.put, List.setIfInBounds_toArray, List.set_cons_zero, List.set_cons_succ, List.getElem_toArray, List.getElem_cons_zero, List.getElem_cons_succ])
    refine wpAnyH_ready (rs := [1]) (by kernel_rfl) (by simp) ?_
    refine AllReadyH.cons rfl (fun K hK => ?_) ?_
    · go_simp
      refine (c_Made A N c xs w1.drew hN HX.out.1 HX.out.2.1 (HX.out.2.2.to' (bdrew (HG.out w1 HB1.out).2.2.2))).mono ?_
      rintro e w2 ⟨rfl, hT, hb2⟩
      have hb12 : Below w1.heap.size w1 w2 := bthen (bdrew (Below.refl _ _)) hb2
      obtain ⟨es3, hes3⟩ := now_mad hT
      have hg : w1.drew.heap.size < w2.heap.size := hT.lt
      clear hT
      refine hK.out _ _ (by exact (HS.out _ hb12)) (fun hHeld => ?_)
      clear hK K
      (try simp only [Act.put, List.setIfInBounds_toArray, List.set_cons_zero, List.set_cons_succ, List.getElem_toArray, List.getElem_cons_zero, List.getElem_cons_succ])
      refine wpAnyH_ready (rs := [3]) (by kernel_rfl) (by simp) ?_
      refine AllReadyH.cons rfl (fun K hK => ?_) ?_
      · go_simp
        refine (c_lfew rp RA Rn Rc' rl w2 hRn (HRL.out.to' (bthen (HG.out w1 HB1.out).2.2.2 hb12))).mono ?_
        rintro e w3 ⟨⟨A3, c3, rfl, h31, h32, hsn⟩, hb3⟩
        have hb13 := bthen hb12 hb3
        obtain ⟨nf, hnf⟩ : ∃ n, (fewL rl).length = n := ⟨_, rfl⟩
        rw [hnf] at hsn h31 ⊢
        refine hK.out _ _ (by exact (HS.out _ hb13)) (fun hHeld => ?_)
        clear hK K
        (try simp only [Act.put, List.setIfInBounds_toArray, List.set_cons_zero, List.set_cons_succ, List.getElem_toArray, List.getElem_cons_zero, List.getElem_cons_succ])
        refine wpAnyH_ready (rs := [4]) (by kernel_rfl) (by simp) ?_
        refine AllReadyH.cons rfl (fun K hK => ?_) ?_
        · go_simp
          refine hK.out _ _ (by exact (HS.out _ (balloc hb13 _))) (fun hHeld => ?_)
          clear hK K
          (try simp only [Act.put, List.setIfInBounds_toArray, List.set_cons_zero, List.set_cons_succ, List.getElem_toArray, List.getElem_cons_zero, List.getElem_cons_succ])
          have gB : Blk (w3.alloc (.cells #[.int .i64 rp, .slice A3 nf c3] 25)) w3.heap.size 25 [.int .i64 rp, .slice A3 nf c3] := Blk.new w3 25 [.int .i64 rp, .slice A3 nf c3]
          have hb34 := balloc (Below.refl w3.heap.size w3) (.cells #[.int .i64 rp, .slice A3 nf c3] 25)
          generalize w3.alloc (.cells #[.int .i64 rp, .slice A3 nf c3] 25) = w4 at *
          have hb24 := bthen hb3 hb34
          have hb14 := bthen hb12 hb24
          have hs14 := hb14.size
          have hrow := hes3.row.to' hb24
          refine wpAnyH_ready (rs := [5]) (by kernel_rfl) (by simp) ?_
          refine AllReadyH.cons (o := { dst := some 48, op := Op.call { callee := Callee.builtin Builtin.append, args := #[Operand.tmp 44, Operand.tmp 47], argTypes := #[28, 28] }, type := 28, pos := "law.go:77", after := #[{ on := 1, ground := Ground.data }, { on := 4, ground := Ground.data }, { on := 3, ground := Ground.chain }], guard := none }) rfl (fun K hK => ?_) ?_
          · refine step_append_fresh (size := 2) (by rfl) _ _ 28 (by rfl) w1.heap.size 25 j0 (.agg #[.int .i64 0, .slice none 0 0]) 32 Tryz.underlying28 hj0 hz0 hz1 hz2 (by rfl) 3 (es3.flatMap cE) (by rfl) hrow (Below.refl _ _) 1 1 [.int .i64 rp, .slice A3 nf c3] (by rfl) (gB.slr (k := 2) (n := 1) rfl) (Below.refl _ _) (by omega) (by unfold maxLen; omega) (by omega) (by omega) ?_
            intro v5 w5 hown5 hg5
            have hb45 := bgrown (Below.refl w4.heap.size w4) hg5 (fun k e => by cases e)
            have hb15 := bthen hb14 hb45
            obtain ⟨A5, c5, rfl, h51, h52, h53⟩ := SlR.of_own hown5
            have hF := Fo.mk4 hes3 (by obtain ⟨G, h⟩ := mad_inv xs; exact h.len) (bthen hb24 hb45) (e := ⟨rp, A3, nf, c3⟩) (l := fewL rl) ⟨hnf, h31, h32, hsn.1.to' (bthen hb34 hb45)⟩ h51 (by unfold maxLen at h52; omega) h53
            refine hK.out _ _ (by exact (HS.out _ hb15)) (fun hHeld => ?_)
            clear hK K
            (try simp only [Act.put, List.setIfInBounds_toArray, List.set_cons_zero, List.set_cons_succ, List.getElem_toArray, List.getElem_cons_zero, List.getElem_cons_succ])
            refine wpAnyH_ready (rs := [6]) (by kernel_rfl) (by simp) ?_
            refine AllReadyH.cons rfl (fun K hK => ?_) ?_
            · go_simp
              refine hK.out _ _ (by exact (HS.out _ hb15)) (fun hHeld => ?_)
              clear hK K
              (try simp only [Act.put, List.setIfInBounds_toArray, List.set_cons_zero, List.set_cons_succ, List.getElem_toArray, List.getElem_cons_zero, List.getElem_cons_succ])
              refine wpAnyH_done (by kernel_rfl) ?_ _
              go_wp2_with fail
              go_meet
              exact ⟨A5, c5, _, rfl, hide hF, hb15⟩
            · exact AllReadyH.nil
          · exact AllReadyH.nil
        · exact AllReadyH.nil
      · exact AllReadyH.nil
    · exact AllReadyH.nil
  case rest =>
    obtain ⟨wL, rfl⟩ : ∃ wL, wL = wc := ⟨_, rfl⟩
    obtain ⟨A5, c5, es, rfl, hF, hbL⟩ := hcut
    obtain ⟨g5, o5, rfl, hg5⟩ := hF.out.some
    have hc54 := hF.out.hc
    have hc5' := hF.out.hc'
    obtain ⟨L, hL⟩ : ∃ L, madL xs ++ [fewL rl] = L := ⟨_, rfl⟩
    rw [hL] at hF
    have HBs : Hid (∀ W, Below wL.heap.size wL W → Fo W (some ⟨g5, o5, none⟩) c5 es L ∧ Blk W (w.heap.size + 1) 26 [.int .i64 m0, .int .i64 m1, .int .i64 m2, .int .i64 m3] ∧ RL W ∧ Below w.heap.size w W) := hide (fun W h => ⟨hF.out.to h, (HG.out W (bthen HB1.out (bthen hbL h))).2⟩)
    clear HS hbL hL hF hg5
    go_wp2_with fail
    rename_i C0 hC0
    refine lp0 w wL (w.heap.size + 1) g5 o5 c5 es L m0 m1 m2 m3 tx _ _ (by rfl) (by rfl) (by rfl) (by rfl) (by rfl) (by rfl) HMk.out hc54 hc5' HBs.out ?_ (fun _ _ _ _ _ h => h)
    intro a0 wo h1 hbW
    refine hC0 _ _ ?_
    obtain ⟨fr0, rfl⟩ : ∃ v, a0 = frm v := ⟨sl a0, act_frm h1.1 h1.2.1⟩
    have e4 : fr0 4 = .string s := (sl_frm fr0 4 (by decide)).symm.trans ((h1.2.2 4 (by decide)).trans rfl)
    have e11 : fr0 11 = .bool true := (sl_frm fr0 11 (by decide)).symm.trans ((h1.2.2 11 (by decide)).trans rfl)
    clear h1 hC0
    unfold frm
    rw [e4, e11]
    clear e4 e11
    obtain ⟨-, -, gR, gw⟩ := HBs.out wo hbW
    have Hw := hide gw
    have HRo := hide gR
    clear gR gw hbW
    go_upto_region 49 with (fail)
    obtain ⟨sx, hsx⟩ : ∃ sx, s.extract 0 (min s.size 60) = sx := ⟨_, rfl⟩
    have hsx60 : sx.size ≤ 1000000 := by rw [← hsx]; simp only [ByteArray.size_extract]; omega
    try rw [hsx]
    clear hsx hmn3 hmn4
    have hDp := c_pDecode sx wo HRo.out hsx60
    have hDr : Hid (∀ W, Calls Tryz.prog 36 #[.string sx] W (DecPost sx W)) := hide (fun W => c_rDecode sx W hsx60)
    unfold DecPost at hDp hDr
    obtain ⟨rr, hrr⟩ : ∃ r, (decM sx).getD zRc = r := ⟨_, rfl⟩
    obtain ⟨er, her⟩ : ∃ e, (if (decM sx).isSome = true then (0 : Int) else 350) = e := ⟨_, rfl⟩
    rw [hrr, her] at hDp
    simp only [hrr, her] at hDr
    have hq := fun w => eqlRc w rr rr
    clear hrr her hsx60
    obtain ⟨zp, zn, zt, zo, zw, zk, zx⟩ := rr
    simp only [decide_true] at hq
    unfold rcV at hDp hDr hq
    dsimp only at hDp hDr hq
    go_upto_region 50 with (go_at_call 35; refine hDp.mono ?_; clear hDp; rintro e w30 ⟨hb, rfl⟩; have HB30 := hide hb; clear hb)
    have g31 := Blk.new w30 49 [.int .i64 zp, .int .i64 zn, .int .i64 zt, .int .i64 zo, .int .i64 zw, .int .i64 zk, .string zx]
    have hb31 := balloc HB30.out (.cells #[.int .i64 zp, .int .i64 zn, .int .i64 zt, .int .i64 zo, .int .i64 zw, .int .i64 zk, .string zx] 49)
    generalize w30.alloc (.cells #[.int .i64 zp, .int .i64 zn, .int .i64 zt, .int .i64 zo, .int .i64 zw, .int .i64 zk, .string zx] 49) = w31 at *
    have H31 := hide g31
    have HB31 := hide hb31
    clear g31 hb31
    go_upto_region 51 with (go_at_call 36; refine (hDr.out w31).mono ?_; clear hDr; rintro e w32 ⟨hb, rfl⟩; have HB32 := hide hb; clear hb)
    have g33 := Blk.new w32 49 [.int .i64 zp, .int .i64 zn, .int .i64 zt, .int .i64 zo, .int .i64 zw, .int .i64 zk, .string zx]
    have hb33 := balloc HB32.out (.cells #[.int .i64 zp, .int .i64 zn, .int .i64 zt, .int .i64 zo, .int .i64 zw, .int .i64 zk, .string zx] 49)
    generalize w32.alloc (.cells #[.int .i64 zp, .int .i64 zn, .int .i64 zt, .int .i64 zo, .int .i64 zw, .int .i64 zk, .string zx] 49) = w33 at *
    have g31 := H31.out.below hb33 H31.out.lt
    obtain ⟨⟨x0, x1, x2, x3, x4, x5, x6⟩, -⟩ := g31.all7
    obtain ⟨⟨y0, y1, y2, y3, y4, y5, y6⟩, -⟩ := g33.all7
    have hl31 := g31.lt
    have hl33 := g33.lt
    have HE := hide (bthen Hw.out (bthen HB31.out hb33))
    clear g31 g33 hb33
    go_wp2_with fail
    go_ret
    exact ⟨rfl, HE.out⟩
end Go.Proofs.YtcfbgelhggapjaaGreatDoor
/- ReplicaMatchesReference returns true for every input, and each argument reads afterwards as it read before. No condition but the row's own: the variable holds what the program's text lays. -/
namespace Go.Proofs.YtcfbgelhggapjaaGreatDoor
open Go.ChangeShapes Go.WideShapes Go.ChangeAt Go.RowKit
theorem matches_reads (os : Os) {H : Type} (enc : TypeId × Value → H) : ∃ places, DataW.whole enc Tryz.prog ((laidWorld os).forCall (fun _ _ => 0) ⟨#[], #[.slice none 0 0, .agg #[.int .i64 0, .slice none 0 0], .agg #[.int .i64 0, .int .i64 0, .int .i64 0, .int .i64 0], .string ⟨#[]⟩, .string ⟨#[]⟩], []⟩).memory Tryz.f3.params.toList Rows.replicaMatchesReferenceSpec.vars false ((#[.slice none 0 0, .agg #[.int .i64 0, .slice none 0 0], .agg #[.int .i64 0, .int .i64 0, .int .i64 0, .int .i64 0], .string ⟨#[]⟩, .string ⟨#[]⟩] : Array Value)).toList 8 = some ([.nil, .agg [.lit (.int .i64 0), .nil], .agg [.lit (.int .i64 0), .lit (.int .i64 0), .lit (.int .i64 0), .lit (.int .i64 0)], .lit (.string []), .lit (.string [])], [], places) :=
  ⟨[], by kernel_rfl⟩
set_option maxHeartbeats 1600000 in
set_option maxRecDepth 100000 in
theorem matches_contract (H : Type) (enc : TypeId × Value → H) (W : World) (base : Nat) (args : Array Value) (ds gs : List (DataW H)) (before : List MemPlace)
    (hval0 : ∀ (j : Nat) t v, Tryz.f3.params[j]? = some t → args[j]? = some v → Value.okWide Tryz.prog W .any base t v)
    (hW : DataW.Whole enc Tryz.prog Tryz.f3.params.toList Rows.replicaMatchesReferenceSpec.vars false W args.toList ds gs before) (hL : laidMetH Tryz.prog Rows.replicaMatchesReferenceRow.laid W) :
    Calls Tryz.prog 3 args W fun e W' => ∃ v, e = .returned v ∧ Rows.replicaMatchesReferenceSpec.post enc Tryz.prog Tryz.f3 false true false false W args v W' := by
  have hR : RL W := rl_of hL
  have hval : ∀ (j : Nat) t v, Tryz.f3.params[j]? = some t → args[j]? = some v → Value.okWide Tryz.prog W .any base t v := hval0
  have hW' := hW
  obtain ⟨p, q, hA0, hV, rfl, hfz, hnd⟩ := hW
  have hA : DataW.TrodAll enc Tryz.prog W 0 (fun _ => true) true Tryz.f3.params.toList args.toList ds p := hA0
  have hA1 := hA
  rw [Tryz.params3] at hA hval
  obtain ⟨v0, v1, v2, v3, v4, d0, d1, d2, d3, d4, p0, p1, p2, p3, p4, rfl, rfl, rfl, h0, h1, h2, h3, h4⟩ := trodAll_five' hA
  obtain ⟨rfl, rfl⟩ := trodVars_none hV
  obtain ⟨A0, x0, c0, rfl, hn0, hc0, hw0, hr0⟩ := open_sl4 (hval 0 22 v0 rfl rfl) h0
  obtain ⟨q1, A1, x1, c1, rfl, hn1, hc1, hr1⟩ := open_rep (hval 1 25 v1 rfl rfl) h1
  obtain ⟨⟨n20, n21, n22, n23⟩, rfl, hk2⟩ := open_ar4 (hval 2 26 v2 rfl rfl) h2
  obtain ⟨s3, rfl, rfl, rfl, w3⟩ := Go.ChangeMaps.open_string Tryz.underlying9 (hval 3 9 v3 rfl rfl) h3
  obtain ⟨s4, rfl, rfl, rfl, w4⟩ := Go.ChangeMaps.open_string Tryz.underlying9 (hval 4 9 v4 rfl rfl) h4
  refine (c_Matches A0 x0.length c0 x0 q1 A1 x1.length c1 x1 n20 n21 n22 n23 s3 s4 W hR (by omega) hw0 rfl hr0 (by omega) hr1 hk2).mono fun e W' ⟨he, hB⟩ => ?_
  subst he
  refine ⟨_, rfl, _, _, _, [], _, [], hW', ?_, below_all hB ?_ hA1, rfl, hB.frame _, fun h => by cases h⟩
  · exact trodAll_mk1 (shut_bool Tryz.underlying4 true)
  · rw [Tryz.params3]
    intro t ht
    simp only [List.mem_cons, List.not_mem_nil, or_false] at ht
    rcases ht with rfl | rfl | rfl | rfl | rfl <;> exact ⟨by kernel_rfl, of_decide_eq_true (by kernel_rfl)⟩
set_option maxRecDepth 100000 in
theorem matches_lifted (os : Os) (started : os.Started) (H : Type) (enc : TypeId × Value → H) (F : Stop.Interp) :
    ReturnsInHanded {} Tryz.checked os 3 .any ((OpenSpec.ofChange Rows.replicaMatchesReferenceSpec).preRow enc Tryz.prog Tryz.f3 Rows.replicaMatchesReferenceRow.domain false Rows.replicaMatchesReferenceRow.laid) (((OpenSpec.ofChange Rows.replicaMatchesReferenceSpec).at F).post enc Tryz.prog Tryz.f3 false true false false) := by
  obtain ⟨places, hx⟩ := matches_reads os enc
  refine returnsInHanded_of_row (C := Tryz.checked) (s := OpenSpec.ofChange Rows.replicaMatchesReferenceSpec) Tryz.own started (by kernel_rfl) Tryz.func3
    (witness_row_at (enc := enc) (C := Tryz.checked) false (laidWorld os) #[.slice none 0 0, .agg #[.int .i64 0, .slice none 0 0], .agg #[.int .i64 0, .int .i64 0, .int .i64 0, .int .i64 0], .string ⟨#[]⟩, .string ⟨#[]⟩] rfl (by kernel_rfl) (by kernel_rfl) (by kernel_rfl)
      (OpenSpec.preRow_of_cond 8 hx (by kernel_rfl) (fun k hk => by cases hk) (by kernel_rfl) (laid_met os _))) ?_
  intro W base args ds gs before hval hW _ _ _ hL _ _
  exact matches_contract H enc W base args ds gs before hval hW hL
/-- ReplicaMatchesReference: whatever the input, true; the input reads as it did. -/
theorem matches_said : Rows.ReplicaMatchesReferenceSaid :=
  OpenClaim.holds_of_cond 3 Tryz.f3 rfl rfl rfl rfl rfl rfl rfl ⟨rfl, rfl, rfl, rfl, rfl⟩ rfl rfl rfl rfl rfl (by kernel_rfl) Tryz.func3 (by kernel_rfl)
    (of_decide_eq_true (by kernel_rfl)) (by unfold Func.isWrapper; first | (rw [if_pos (by decide +kernel)]; kernel_rfl) | (rw [if_neg (by decide +kernel)]; exact ⟨rfl, rfl⟩))
    (fun os started H enc _ F => by rw [OpenClaim.pre_eq_preRow]; exact matches_lifted os started H enc F)
/-- no parameter wants a stand-in; the program's own looks are off -/
theorem matches_plain (f : FuncId) (fn : Func) (hf : Tryz.pinned.checked.prog.funcNamed "slatewall/slatewalllaw35.ReplicaMatchesReference" = some f) (hfn : Tryz.pinned.checked.prog.funcs[f]? = some fn) :
    false = Tryz.pinned.checked.prog.looks [] ∧ ∀ (j : Nat) t, fn.params[j]? = some t → Tryz.pinned.checked.prog.wantsStandIn t = false := by
  obtain rfl : f = 3 := Option.some.inj ((show Tryz.prog.funcNamed "slatewall/slatewalllaw35.ReplicaMatchesReference" = some 3 by kernel_rfl).symm.trans hf) |>.symm
  obtain rfl : fn = Tryz.f3 := (Option.some.inj (Tryz.func3.symm.trans hfn)).symm
  refine ⟨by kernel_rfl, fun j t ht => ?_⟩
  rw [Tryz.params3] at ht
  have hm : t ∈ [22, 25, 26, 9, 9] := by simpa using Array.mem_of_getElem? ht
  have hall : ([22, 25, 26, 9, 9].all fun u => !Tryz.prog.wantsStandIn u) = true := by kernel_rfl
  exact (show Tryz.prog.wantsStandIn t = false by simpa using List.all_eq_true.1 hall t hm)
/-- THE CARD of ReplicaMatchesReference. -/
theorem matches_holds : Rows.ReplicaMatchesReferenceCardSaid :=
  Claim7.holds_tied_plain_at .later [] _ _ _ _ matches_said (fun _ h => by cases h) (by kernel_rfl) (fun _ h => by cases h) replicaMatchesReference_row_tie rfl ⟨rfl, rfl⟩ (by kernel_rfl) rfl matches_plain (by kernel_rfl)
end Go.Proofs.YtcfbgelhggapjaaGreatDoor
#print axioms Go.Proofs.YtcfbgelhggapjaaGreatDoor.matches_holds
