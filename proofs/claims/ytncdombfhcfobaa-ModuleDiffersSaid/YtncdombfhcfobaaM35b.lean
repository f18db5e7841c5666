/- Contract: sane: the law's examples hold. -/
import Derived.Test.YtncdombfhcfobaaM35a
import Derived.Test.YtncdombfhcfobaaRy2
namespace Go.Proofs.Ytncdombfhcfobaa
open Go.RowKit
set_option linter.unusedSimpArgs false in
set_option maxRecDepth 100000 in
set_option maxHeartbeats 16000000 in
theorem c_sane (w : World) : Calls Try.prog 9 #[] w fun e w' => e = .returned (.bool true) ∧ Below w.heap.size w w' := by
  go_enter Try.func9, Try.ntmps9
  go_wp2_with fail
  refine (c_example w).mono ?_
  rintro e w1 ⟨g, rows, r, rfl, hsl, hmo, hcp, hb1⟩
  obtain ⟨ba, oa, ca, bb, ob, cb, hrows, hca, hcb⟩ := ex_rows hsl hmo
  have gC := Blk.new w1 45 (cC r)
  have hb12 := balloc (Below.refl w1.heap.size w1) (.cells (cC r).toArray 45)
  have hs2 := hsl.to' hb12
  have hm2 := hmo.to hb12
  have hc2 := hcp.to hb12
  have hI := c_Items (some ⟨g, 0, none⟩) 2 2 rows exMs r exC _ (by omega) hs2 hm2 hc2
  have HW := hide (And.intro hb1 (And.intro hb12 (And.intro hs2 (And.intro hm2 hc2))))
  clear hsl hmo hcp hb1 hb12 hs2 hm2 hc2
  obtain ⟨q0, q1, q2, q3, q4, q5⟩ := gC.allC
  have hbl := gC.lt
  go_wp2_with fail
  refine hI.mono ?_
  clear hI
  rintro e w3 ⟨hb3, ⟨hv, -⟩ | ⟨v3, s3, -, hs, rfl, ho3⟩⟩
  · rw [ex_v] at hv; cases hv
  obtain rfl := ex_made hs
  clear hs
  obtain ⟨A3, c3, rfl, ha3, hb3c, hs3⟩ := SlR.of_own ho3
  clear ho3
  have gC3 := gC.below hb3 gC.lt
  have hE := c_Expand (some ⟨g, 0, none⟩) 2 2 rows exMs r exC w3 (by omega) (HW.out.2.2.1.to' hb3) (HW.out.2.2.2.1.to hb3) (HW.out.2.2.2.2.to hb3)
  have H3 := hide (And.intro hb3 (And.intro hs3 gC3))
  obtain ⟨q0, q1, q2, q3, q4, q5⟩ := gC3.allC
  have hbl := gC3.lt
  clear hb3 hs3 gC gC3
  go_wp2_with fail
  refine hE.mono ?_
  clear hE
  rintro e w4 ⟨hb4, ⟨hv, -⟩ | ⟨s4, -, hs, ⟨hv, -⟩ | ⟨-, A4, n4, c4, rows4, rfl, hn4, hc4, hs4, hp4⟩⟩⟩
  · rw [ex_v] at hv; cases hv
  · obtain rfl := ex_made hs
    have := ex_ok
    rw [show plc exMs 13 exIt [exC.code] exC.x exC.y = plc exMs 13 exIt [2004] 1000 1000 from rfl, this] at hv
    cases hv
  obtain rfl := ex_made hs
  clear hs
  rw [show plc exMs 13 exIt [exC.code] exC.x exC.y = plc exMs 13 exIt [2004] 1000 1000 from rfl, ex_pl] at hp4
  have hb14 : Below w1.heap.size w1 w4 := bthen (bthen HW.out.2.1 H3.out.1) hb4
  have gC4 := H3.out.2.2.below hb4 H3.out.2.2.lt
  have H4 := hide (And.intro hb4 (And.intro hb14 (And.intro hs4 (And.intro hp4 gC4))))
  clear hb4 hs4 hp4 gC4 q0 q1 q2 q3 q4 q5 hbl hb14
  go_wp2_with fail
  refine (c_box 1 0 0 ⟨#[100]⟩ w4).mono ?_
  rintro e w5 ⟨rfl, hb5⟩
  have gN : Blk (w5.alloc (.cells #[.int .i64 1, .int .i64 1, .int .i64 0, .int .i64 0, .string ⟨#[100]⟩, .int .i64 0] 36)) w5.heap.size 36 (cI ⟨1, 1, 0, 0, ⟨#[100]⟩, 0⟩) := Blk.new w5 36 (cI ⟨1, 1, 0, 0, ⟨#[100]⟩, 0⟩)
  have gM := Blk.new (w5.alloc (.cells #[.int .i64 1, .int .i64 1, .int .i64 0, .int .i64 0, .string ⟨#[100]⟩, .int .i64 0] 36)) 27 [.int .i64 2, .slice (some ⟨w5.heap.size, 0, none⟩) 1 1]
  have gN' := gN.alloc (.cells #[.int .i64 2, .slice (some ⟨w5.heap.size, 0, none⟩) 1 1] 27)
  have hb56 := balloc (balloc (Below.refl w5.heap.size w5) (.cells #[.int .i64 1, .int .i64 1, .int .i64 0, .int .i64 0, .string ⟨#[100]⟩, .int .i64 0] 36)) (.cells #[.int .i64 2, .slice (some ⟨w5.heap.size, 0, none⟩) 1 1] 27)
  have hsz : (w5.alloc (.cells #[.int .i64 1, .int .i64 1, .int .i64 0, .int .i64 0, .string ⟨#[100]⟩, .int .i64 0] 36)).heap.size = w5.heap.size + 1 := by simp
  rw [hsz] at gM
  clear hsz gN
  go_upto_region 5 with (fail)
  obtain ⟨w6, hw6⟩ : ∃ W, (w5.alloc (.cells #[.int .i64 1, .int .i64 1, .int .i64 0, .int .i64 0, .string ⟨#[100]⟩, .int .i64 0] 36)).alloc (.cells #[.int .i64 2, .slice (some ⟨w5.heap.size, 0, none⟩) 1 1] 27) = W := ⟨_, rfl⟩
  change Blk ((w5.alloc (.cells #[.int .i64 1, .int .i64 1, .int .i64 0, .int .i64 0, .string ⟨#[100]⟩, .int .i64 0] 36)).alloc (.cells #[.int .i64 2, .slice (some ⟨w5.heap.size, 0, none⟩) 1 1] 27)) _ _ _ at gM
  change Blk ((w5.alloc (.cells #[.int .i64 1, .int .i64 1, .int .i64 0, .int .i64 0, .string ⟨#[100]⟩, .int .i64 0] 36)).alloc (.cells #[.int .i64 2, .slice (some ⟨w5.heap.size, 0, none⟩) 1 1] 27)) _ _ _ at gN'
  rw [hw6] at gM gN' hb56 ⊢
  clear hw6
  have hb16 : Below w1.heap.size w1 w6 := bthen (bthen H4.out.2.1 hb5) hb56
  have gC6 := (H4.out.2.2.2.2.below hb5 H4.out.2.2.2.2.lt).below hb56 (H4.out.2.2.2.2.below hb5 H4.out.2.2.2.2.lt).lt
  have hb46 := bthen hb5 hb56
  obtain ⟨q0, q1, q2, q3, q4, q5⟩ := gC6.allC
  obtain ⟨m0, m1⟩ := gM.two
  have hbl := gC6.lt
  have hml := gM.lt
  have hslN : SlR w6 w6.heap.size 6 (some ⟨w5.heap.size, 0, none⟩) 1 (exNx.items.flatMap cI) := gN'.slr rfl
  have hlen : ∀ m ∈ exMs, m.items.length ≤ 1000000 := by decide
  have hR := c_Rebase (some ⟨g, 0, none⟩) 2 2 rows exMs ⟨2, some ⟨w5.heap.size, 0, none⟩, 1, 1⟩ exNx r exC w6 (by omega) (HW.out.2.2.1.to' (bthen (bthen H3.out.1 H4.out.1) hb46)) (HW.out.2.2.2.1.to (bthen (bthen H3.out.1 H4.out.1) hb46)) hlen (by decide) rfl hslN (HW.out.2.2.2.2.to (bthen (bthen H3.out.1 H4.out.1) hb46))
  have H6 := hide (And.intro hb46 (And.intro hb16 (And.intro hslN (And.intro gC6 gM))))
  clear gC6 gM gN' hb5 hb56 hb16 hb46 hslN hlen
  go_wp2_with fail
  refine hR.mono ?_
  clear hR
  rintro e w7 ⟨hb7, ⟨hv, -⟩ | ⟨-, qr, v7, rfl, hcr, hct⟩⟩
  · rw [ex_reb] at hv; cases hv
  rw [ex_rebC] at hcr
  obtain ⟨Aq, cq, Bq, dq, rfl, hcq1, hcq2, hdq⟩ : ∃ Aq cq Bq dq, qr = ⟨2004, 2, 1000, 1000, Aq, 1, cq, Bq, 0, dq⟩ ∧ 1 ≤ cq ∧ cq ≤ 9223372036854775807 ∧ dq ≤ 9223372036854775807 := by
    obtain ⟨c1, c2, c3, c4, Aq, nq, cq, Bq, mq, dq⟩ := qr
    obtain ⟨⟨e1, e2, e3, e4⟩, ⟨f1, f2, f3⟩, ⟨j1, j2, j3⟩⟩ := hcr
    have hn1 : nq = 1 := (f3.lenI).symm
    have hn2 : mq = 0 := (j3.lenN).symm
    simp only at e1 e2 e3 e4 f1 f2 j2 hn1 hn2
    subst e1 e2 e3 e4 hn1 hn2
    exact ⟨Aq, cq, Bq, dq, rfl, f1, f2, j2⟩
  rw [ex_cont] at hct
  obtain ⟨A7, c7, rfl, ha7, hc7, hs7⟩ := SlR.of_own hct
  clear hct
  go_upto_region 6 with (fail)
  have gQ := Blk.new w7 45 (cC ⟨2004, 2, 1000, 1000, Aq, 1, cq, Bq, 0, dq⟩)
  have hb78 := balloc (Below.refl w7.heap.size w7) (.cells (cC ⟨2004, 2, 1000, 1000, Aq, 1, cq, Bq, 0, dq⟩).toArray 45)
  obtain ⟨w8, hw8⟩ : ∃ W, w7.alloc (.cells (cC ⟨2004, 2, 1000, 1000, Aq, 1, cq, Bq, 0, dq⟩).toArray 45) = W := ⟨_, rfl⟩
  change Code.wp _ _ _ _ (w7.alloc (.cells (cC ⟨2004, 2, 1000, 1000, Aq, 1, cq, Bq, 0, dq⟩).toArray 45))
  rw [hw8] at gQ hb78 ⊢
  clear hw8
  have hb18 := bthen (bthen H6.out.2.1 hb7) hb78
  have hcr8 := hcr.to hb78
  have hs78 := hs7.to' hb78
  have H8 := hide (And.intro hb18 (And.intro (bthen hb7 hb78) (And.intro hcr8 (And.intro hs78 gQ))))
  have hb28 : Below (w1.alloc (.cells (cC r).toArray 45)).heap.size (w1.alloc (.cells (cC r).toArray 45)) w8 := bthen (bthen (bthen H3.out.1 H4.out.1) H6.out.1) (bthen hb7 hb78)
  have hsx := HW.out.2.2.1.to' hb28
  have hmx := HW.out.2.2.2.1.to hb28
  rw [hrows] at hsx hmx
  have HX := hide (And.intro hb28 (And.intro hsx hmx))
  have hex := ex_cells hsx hmx
  obtain ⟨z0, z1, z2, z3, z4, z5⟩ := hex
  obtain ⟨_, _, egg, gl, _⟩ := hsx.2 (by omega)
  cases egg
  obtain ⟨hca1, hca2⟩ := hca
  clear hb7 hb78 hb18 hcr hcr8 hs7 hs78 gQ hb28 hsx hmx
  go_upto_region 7 with (fail)
  obtain ⟨w9, hw9⟩ : ∃ W, w8.alloc (.cells #[.int .i64 1, .slice (some ⟨ba, oa + 6, none⟩) 1 (ca - 1)] 27) = W := ⟨_, rfl⟩
  have gT := Blk.new w8 27 [.int .i64 1, .slice (some ⟨ba, oa + 6, none⟩) 1 (ca - 1)]
  have hb89 := balloc (Below.refl w8.heap.size w8) (.cells #[.int .i64 1, .slice (some ⟨ba, oa + 6, none⟩) 1 (ca - 1)] 27)
  change Blk (w8.alloc (.cells #[.int .i64 1, .slice (some ⟨ba, oa + 6, none⟩) 1 (ca - 1)] 27)) _ _ _ at gT
  rw [hw9] at gT hb89 ⊢
  clear hw9 z0 z1 z2 z3 z4 z5
  have H9 := hide (And.intro gT hb89)
  have HEX := hide (show ∀ W, Below w9.heap.size w9 W → ExC W g ba oa ca bb ob cb from fun W hW => ex_cells (HX.out.2.1.to' (bthen hb89 hW)) (HX.out.2.2.to (bthen hb89 hW)))
  clear gT hb89
  go_cut [12] from 61 to 69 (fun v wx => ∃ p gs, v = .pointer (some ⟨p, 0, none⟩) ∧ Blk wx p 27 [.int .i64 1, .slice (some ⟨gs, 0, none⟩) 2 2] ∧ Blk wx gs 36 (ex5.items.flatMap cI) ∧ Below w9.heap.size w9 wx)
  case first =>
    -- <F
    have hbI : ∀ {w w' : World}, Below w9.heap.size w9 w → Below w.heap.size w w' → Below w9.heap.size w9 w' := fun h k => bthen h k
    have hExC := fun (w : World) (h : Below w9.heap.size w9 w) => HEX.out w h
    refine wp_region_rely [some 61, some 62, some 63, some 64, some 65, some 66, some 67, some 68, some 69, some 12, none] [(1, .slice (some ⟨g, 0, none⟩) 2 2)] (fun k w w' => if k = 10 then GM w9.heap.size 27 w w' else Below w.heap.size w w') (fun w => Below w9.heap.size w9 w) (fun i => if i = 10 then [9] else [])
      (sR7 w9.heap.size g ba oa ca) (by kernel_rfl) (by kernel_rfl) (by kernel_rfl) (by kernel_rfl) ⟨rfl, trivial⟩ ?stab (bdrew (Below.refl _ _)) ?steps ?fin
    case stab =>
      intro i k us v w w' hne hR hG
      have st1 : ∀ gs cs, w9.heap.size ≤ gs → Blk w gs 36 cs → Blk w' gs 36 cs := by
        intro gs cs hgs hb
        by_cases hk : k = 10
        · rw [if_pos hk] at hG; exact hG.keep gs _ cs hgs hb (by decide)
        · rw [if_neg hk] at hG; exact hb.below hG hb.lt
      have st2 : ∀ p cs, w9.heap.size ≤ p → Blk w p 27 cs → cs.length = 2 → ∃ cs', Blk w' p 27 cs' ∧ cs'.length = 2 := by
        intro p cs hp hb hl
        by_cases hk : k = 10
        · rw [if_pos hk] at hG
          obtain ⟨cs', h1, h2⟩ := hG.shape p cs hp hb
          exact ⟨cs', h1, h2.trans hl⟩
        · rw [if_neg hk] at hG; exact ⟨cs, hb.below hG hb.lt, hl⟩
      match i, hne, hR with
      | 0, _, h => exact h
      | 1, _, h => exact h
      | 2, _, h => exact h
      | 3, _, h => exact h
      | 4, _, h => exact h
      | 5, _, h => exact h
      | 6, _, h => exact h
      | 7, _, ⟨gs, h1, h2, h3⟩ => exact ⟨gs, h1, h2, st1 _ _ h2 h3⟩
      | 8, _, ⟨gs, h1, h2, h3⟩ => exact ⟨gs, h1, h2, st1 _ _ h2 h3⟩
      | 9, _, ⟨p, h1, h2, cs, h3, h4⟩ => exact ⟨p, h1, h2, st2 _ _ h2 h3 h4⟩
      | 10, hne, ⟨p, gs, h1, h2, h3, h4, h5⟩ =>
        rw [if_neg hne] at hG
        exact ⟨p, gs, h1, h2, h3, h4.below hG h4.lt, h5.below hG h5.lt⟩
      | n + 11, _, _ => exact trivial
    case steps => exact sane_7 w9 g ba oa ca bb ob cb _ hExC _ (by kernel_rfl)
    case fin =>
      intro vals w' hI hR
      obtain ⟨p, gs, h1, h2, h3, h4, h5⟩ := hR 10 (by decide)
      have h1' : vals 9 = .pointer (some ⟨p, 0, none⟩) := by
        have h1'' : [vals 9] = [.pointer (some ⟨p, 0, none⟩)] := h1
        injection h1''
      rw [putsA_list, putsL_split vals 9 61 ?hd ?hn ?hs]
      case hd => kernel_rfl
      case hn => kernel_rfl
      case hs => kernel_rfl
      simp only [List.take_succ_cons, List.take_zero, List.drop_succ_cons, List.drop_zero, List.range'_succ, List.range'_zero, List.map_cons, List.map_nil, List.cons_append, List.nil_append, putsL, List.set_cons_succ, List.set_cons_zero, h1']
      go_wp2_with fail
      go_meet
      exact ⟨p, gs, rfl, h4, h5, hI⟩
    -- F>
  case rest =>
    obtain ⟨w10, rfl⟩ : ∃ W : World, W = wc := ⟨_, rfl⟩
    obtain ⟨p12, gs, rfl, hP12, hgs, hb910⟩ := hcut
    have HP := hide (show ∀ W, Below w10.heap.size w10 W → Blk W p12 27 [.int .i64 1, .slice (some ⟨gs, 0, none⟩) 2 2] ∧ Blk W gs 36 (ex5.items.flatMap cI) from fun W hW => ⟨hP12.below hW hP12.lt, hgs.below hW hgs.lt⟩)
    have HT := hide (show ∀ W, Below w10.heap.size w10 W → Blk W w8.heap.size 27 [.int .i64 1, .slice (some ⟨ba, oa + 6, none⟩) 1 (ca - 1)] from fun W hW => (H9.out.1.below hb910 H9.out.1.lt).below hW (H9.out.1.below hb910 H9.out.1.lt).lt)
    have HEY := hide (show ∀ W, Below w10.heap.size w10 W → ExC W g ba oa ca bb ob cb from fun W hW => HEX.out W (bthen hb910 hW))
    have HSM := hide (show ∀ W, Below w10.heap.size w10 W → SlR W W.heap.size 6 (some ⟨ba, oa, none⟩) 2 (ex1.flatMap cI) from fun W hW => ((HX.out.2.2.to (bthen (bthen H9.out.2 hb910) hW)).2 0 (by simp) (by decide)).2.2.2)
    have HCM := hide (show ∀ W, Below w10.heap.size w10 W → Calls Try.prog 11 #[mrV ⟨1, some ⟨ba, oa, none⟩, 2, ca⟩, mrV ⟨1, some ⟨ba, oa + 6, none⟩, 1, ca - 1⟩, mrV ⟨1, some ⟨gs, 0, none⟩, 2, 2⟩] W (MergePost ⟨1, ex1⟩ ex35 ex5 W) from fun W hW =>
      c_Merge ⟨1, some ⟨ba, oa, none⟩, 2, ca⟩ ⟨1, some ⟨ba, oa + 6, none⟩, 1, ca - 1⟩ ⟨1, some ⟨gs, 0, none⟩, 2, 2⟩ ⟨1, ex1⟩ ex35 ex5 W rfl rfl rfl (by show 2 ≤ _; omega) (by show 1 ≤ _; omega) (by show 2 ≤ _; omega) (HSM.out W hW) (slr_tail (HSM.out W hW)) ((HP.out W hW).2.slr rfl))
    have H10 := hide hb910
    clear hb910 hP12 hgs hca1 hca2
    go_upto_region 8 with (fail)
    go_cut [13, 14, 15] from 70 to 79 (fun v u s wx => ∃ p Am cm Ag cg, v = .pointer (some ⟨p, 0, none⟩) ∧ u = .slice Ag 0 cg ∧ s = .int .i64 0 ∧ Blk wx p 27 [.int .i64 1, .slice Am 1 cm] ∧ 1 ≤ cm ∧ cm ≤ 9223372036854775807 ∧ SlR wx wx.heap.size 6 Am 1 (exIx.flatMap cI) ∧ Below w10.heap.size w10 wx)
    case first =>
      -- <F
      have hbI : ∀ {w w' : World}, Below w10.heap.size w10 w → Below w.heap.size w w' → Below w10.heap.size w10 w' := fun h k => bthen h k
      have hExC := fun (w : World) (h : Below w10.heap.size w10 w) => HEY.out w h
      refine wp_region_rely [some 71, some 72, some 73, some 74, some 75, some 76, some 70, some 77, some 78, some 79, some 13, none, some 14, some 15] [(1, .slice (some ⟨g, 0, none⟩) 2 2), (11, .pointer (some ⟨w8.heap.size, 0, none⟩)), (12, .pointer (some ⟨p12, 0, none⟩))] (fun k w w' => if k = 11 then St2 w10.heap.size w w' else Below w.heap.size w w') (fun w => Below w10.heap.size w10 w) (fun i => if i = 11 then [10] else [])
        (sR8 w10.heap.size g ba oa ca gs) (by kernel_rfl) (by kernel_rfl) (by kernel_rfl) (by kernel_rfl) ⟨rfl, rfl, rfl, trivial⟩ ?stab (bdrew (Below.refl _ _)) ?steps ?fin
      case stab =>
        intro i k us v w w' hne hR hG
        have st1 : ∀ (A : Option Addr), SlR w w.heap.size 6 A 1 (exIx.flatMap cI) → SlR w' w'.heap.size 6 A 1 (exIx.flatMap cI) := by
          intro A hs
          by_cases hk : k = 11
          · rw [if_pos hk] at hG; exact slr_st2 hs (by omega) hG
          · rw [if_neg hk] at hG; exact hs.to' hG
        have st2 : ∀ p cs, Blk w p 27 cs → cs.length = 2 → ∃ cs', Blk w' p 27 cs' ∧ cs'.length = 2 := by
          intro p cs hb hl
          by_cases hk : k = 11
          · rw [if_pos hk] at hG; exact st2_shape hG hb hl
          · rw [if_neg hk] at hG; exact ⟨cs, hb.below hG hb.lt, hl⟩
        match i, hne, hR with
        | 0, _, h => exact h
        | 1, _, h => exact h
        | 2, _, h => exact h
        | 3, _, h => exact h
        | 4, _, h => exact h
        | 5, _, ⟨Am, cm, Ag, cg, h1, h2, h3, h4⟩ => exact ⟨Am, cm, Ag, cg, h1, h2, h3, st1 _ h4⟩
        | 6, _, ⟨Am, cm, Ag, cg, h1, h2, h3, h4⟩ => exact ⟨Am, cm, Ag, cg, h1, h2, h3, st1 _ h4⟩
        | 7, _, ⟨Am, cm, h1, h2, h3, h4⟩ => exact ⟨Am, cm, h1, h2, h3, st1 _ h4⟩
        | 8, _, h => exact h
        | 9, _, h => exact h
        | 10, _, ⟨p, h1, h2, cs, h3, h4⟩ => exact ⟨p, h1, h2, st2 _ _ h3 h4⟩
        | 11, hne, ⟨p, Am, cm, h1, h2, h3, h4, h5⟩ =>
          rw [if_neg hne] at hG
          exact ⟨p, Am, cm, h1, h2.below hG h2.lt, h3, h4, h5.to' hG⟩
        | 12, _, h => exact h
        | 13, _, h => exact h
        | n + 14, _, _ => exact trivial
      case steps => exact sane_8 w8 w10 g ba oa ca bb ob cb p12 gs _ hExC HT HP HCM _ (by kernel_rfl)
      case fin =>
        intro vals w' hI hR
        obtain ⟨p, Am, cm, h1, h2, h3, h4, h5⟩ := hR 11 (by decide)
        have h1' : vals 10 = .pointer (some ⟨p, 0, none⟩) := by
          have h1'' : [vals 10] = [.pointer (some ⟨p, 0, none⟩)] := h1
          injection h1''
        obtain ⟨Ag, cg, h12⟩ := hR 12 (by decide)
        have h13 : vals 13 = .int .i64 0 := hR 13 (by decide)
        rw [putsA_list, putsL_split vals 6 71 ?hd ?hn ?hs]
        case hd => kernel_rfl
        case hn => kernel_rfl
        case hs => kernel_rfl
        simp only [List.take_succ_cons, List.take_zero, List.drop_succ_cons, List.drop_zero, List.range'_succ, List.range'_zero, List.map_cons, List.map_nil, List.cons_append, List.nil_append, putsL, List.set_cons_succ, List.set_cons_zero, h1', h12, h13]
        go_wp2_with fail
        go_meet
        exact ⟨p, Am, cm, Ag, cg, rfl, rfl, rfl, h2, h3, h4, h5, hI⟩
      -- F>
    case rest =>
      obtain ⟨w11, rfl⟩ : ∃ W : World, W = wc := ⟨_, rfl⟩
      obtain ⟨p13, Am, cm, Ag, cg, rfl, rfl, rfl, hP13, hcm1, hcm2, hsm, hb1011⟩ := hcut
      have hb11 := bthen H10.out hb1011
      have hb611 : Below w6.heap.size w6 w11 := bthen H8.out.2.1 (bthen H9.out.2 hb11)
      have gN11 := H6.out.2.2.2.2.below hb611 H6.out.2.2.2.2.lt
      obtain ⟨m0, m1⟩ := gN11.two
      have hml := gN11.lt
      have hbx := bthen HX.out.1 (bthen H9.out.2 hb11)
      have hRp := c_Replace (some ⟨g, 0, none⟩) 2 2 rows exMs ⟨2, some ⟨w5.heap.size, 0, none⟩, 1, 1⟩ exNx w11 (by omega) (HW.out.2.2.1.to' hbx) (HW.out.2.2.2.1.to hbx) (by decide) (by decide) rfl (H6.out.2.2.1.to' hb611)
      have H11 := hide (And.intro hb1011 (And.intro hb611 (And.intro hP13 (And.intro hsm (And.intro gN11 (And.intro hcm1 hcm2))))))
      clear hb1011 hb11 hb611 gN11 hbx hP13 hsm hcm1 hcm2
      go_wp2_with fail
      refine hRp.mono ?_
      clear hRp
      rintro e w12 ⟨hb12, ⟨hv, -⟩ | ⟨-, Aw, nw, cw, rowsw, rfl, hnw, hcw, hsw, hmw⟩⟩
      · rw [ex_rp] at hv; cases hv
      rw [ex_rpL] at hmw
      have hnw2 : nw = 2 := by have h1 := hsw.lenm; have h2 := hmw.1; simp at h2; omega
      subst hnw2
      obtain ⟨q1, q2, rfl⟩ : ∃ q1 q2, rowsw = [q1, q2] := by
        match rowsw, hmw.1 with
        | [q1, q2], _ => exact ⟨q1, q2, rfl⟩
      obtain ⟨bw, ow, rfl, hbw, _⟩ := hsw.2 (by omega)
      obtain ⟨aw2, cw2, rfl, hcw2⟩ : ∃ aw2 cw2, q2 = ⟨2, aw2, 1, cw2⟩ ∧ 1 ≤ cw2 := by
        obtain ⟨e1, l1, l2, s1⟩ := hmw.2 1 (by simp) (by decide)
        obtain ⟨i2, a2, n2, c2⟩ := q2
        simp only [List.getElem_cons_succ, List.getElem_cons_zero] at e1 l1 l2 s1
        have hn : n2 = 1 := (s1.lenI).symm
        subst hn
        exact ⟨a2, c2, by rw [e1]; rfl, l1⟩
      have H12 := hide (And.intro hb12 (And.intro hsw (And.intro hmw (And.intro hnw hcw))))
      clear hb12 hsw hmw hnw hcw m0 m1 hml
      have hbd : Blk (w12.alloc (.cells #[.int .i64 0, .int .i64 2, .int .i64 0, .int .i64 0, .string ⟨#[]⟩, .int .i64 2] 36)) w12.heap.size 36 (cI ⟨0, 2, 0, 0, ⟨#[]⟩, 2⟩) := Blk.new w12 36 (cI ⟨0, 2, 0, 0, ⟨#[]⟩, 2⟩)
      have hb1213 := balloc (Below.refl w12.heap.size w12) (.cells #[.int .i64 0, .int .i64 2, .int .i64 0, .int .i64 0, .string ⟨#[]⟩, .int .i64 2] 36)
      have hbx := bthen (bthen (bthen HX.out.1 (bthen H9.out.2 (bthen H10.out H11.out.1))) H12.out.1) hb1213
      have hRq := c_Replace (some ⟨g, 0, none⟩) 2 2 rows exMs ⟨1, some ⟨w12.heap.size, 0, none⟩, 1, 1⟩ exBad _ (by omega) (HW.out.2.2.1.to' hbx) (HW.out.2.2.2.1.to hbx) (by decide) (by decide) rfl (hbd.slr rfl)
      have HB := hide hbx
      have HB1 := hide hb1213
      clear hbx hb1213 hbd
      go_wp2_with fail
      refine hRq.mono ?_
      clear hRq
      rintro e w13 ⟨hb13, ⟨-, rfl⟩ | ⟨hv, -⟩⟩
      rotate_left
      · rw [ex_bad] at hv; cases hv
      have hb2 := bthen HB.out hb13
      have hIz := c_Items (some ⟨g, 0, none⟩) 2 2 rows exMs zCR zCp w13 (by omega) (HW.out.2.2.1.to' hb2) (HW.out.2.2.2.1.to hb2) ⟨⟨rfl, rfl, rfl, rfl⟩, ⟨Nat.le_refl _, by decide, SlR.nil⟩, ⟨Nat.le_refl _, by decide, SlR.nil⟩⟩
      have H13 := hide (And.intro hb2 (bthen HB1.out hb13))
      clear hb2 hb13
      unfold crV zCR at hIz
      go_wp2_with fail
      refine hIz.mono ?_
      clear hIz
      rintro e w14 ⟨hb14, ⟨-, rfl⟩ | ⟨_, _, hv, -⟩⟩
      rotate_left
      · rw [ex_zc] at hv; cases hv
      have H14 := hide hb14
      clear hb14
      go_upto_region 12 with (fail)
      have hb1014 := bthen H11.out.1 (bthen H12.out.1 (bthen H13.out.2 H14.out))
      have HPy := hide (show ∀ W, Below w14.heap.size w14 W → Blk W p12 27 [.int .i64 1, .slice (some ⟨gs, 0, none⟩) 2 2] ∧ Blk W gs 36 (ex5.items.flatMap cI) from fun W hW => HP.out W (bthen hb1014 hW))
      have HEZ := hide (show ∀ W, Below w14.heap.size w14 W → ExC W g ba oa ca bb ob cb from fun W hW => HEY.out W (bthen hb1014 hW))
      have HCD := hide (show ∀ W, Below w14.heap.size w14 W → Calls Try.prog 27 #[.slice (some ⟨ba, oa, none⟩) 2 ca, .slice (some ⟨gs, 6, none⟩) 1 1] W (DifferPost ex1 exIx W) from fun W hW =>
        c_Differ (some ⟨ba, oa, none⟩) 2 ca ex1 (some ⟨gs, 6, none⟩) 1 1 exIx W (by omega) (by omega) (HSM.out W (bthen hb1014 hW)) (slr_tail ((HPy.out W hW).2.slr (n := 2) rfl)))
      have HBx := hide hb1014
      clear hb1014
      go_cut [22, 23] from 100 to 110 (fun v u wx => ∃ A c' B d', v = .slice A 1 c' ∧ u = .slice B 1 d' ∧ (1 ≤ c' ∧ c' ≤ maxLen ∧ SlR wx wx.heap.size 6 A 1 (exIx.flatMap cI)) ∧ (1 ≤ d' ∧ d' ≤ maxLen ∧ SlR wx wx.heap.size 1 B 1 ([(3 : Int)].flatMap cN)) ∧ Below w14.heap.size w14 wx)
      case first =>
        -- <F
        have hbI : ∀ {w w' : World}, Below w14.heap.size w14 w → Below w.heap.size w w' → Below w14.heap.size w14 w' := fun h k => bthen h k
        have hExC := fun (w : World) (h : Below w14.heap.size w14 w) => HEZ.out w h
        refine wp_region_rely [some 101, some 102, some 103, some 104, some 105, some 106, some 107, some 108, some 100, some 109, some 110, some 22, some 23] [(1, .slice (some ⟨g, 0, none⟩) 2 2), (12, .pointer (some ⟨p12, 0, none⟩))] (fun k w w' => Below w.heap.size w w') (fun w => Below w14.heap.size w14 w) (fun _ => [])
          (sR12 g ba oa ca p12 gs) (by kernel_rfl) (by kernel_rfl) (by kernel_rfl) (by kernel_rfl) ⟨rfl, rfl, trivial⟩ ?stab (bdrew (Below.refl _ _)) ?steps ?fin
        case stab =>
          intro i k us v w w' hne hR hG
          match i, hR with
          | 0, h => exact h
          | 1, h => exact h
          | 2, h => exact h
          | 3, h => exact h
          | 4, h => exact h
          | 5, h => exact h
          | 6, h => exact h
          | 7, ⟨A, c', B, d', h1, h2, h3⟩ => exact ⟨A, c', B, d', h1, ⟨h2.1, h2.2.1, h2.2.2.to' hG⟩, h3.1, h3.2.1, h3.2.2.to' hG⟩
          | 8, ⟨A, c', B, d', h1, h2, h3⟩ => exact ⟨A, c', B, d', h1, ⟨h2.1, h2.2.1, h2.2.2.to' hG⟩, h3.1, h3.2.1, h3.2.2.to' hG⟩
          | 9, ⟨A, c', h1, h2⟩ => exact ⟨A, c', h1, h2.1, h2.2.1, h2.2.2.to' hG⟩
          | 10, ⟨B, d', h1, h2⟩ => exact ⟨B, d', h1, h2.1, h2.2.1, h2.2.2.to' hG⟩
          | 11, ⟨A, c', h1, h2⟩ => exact ⟨A, c', h1, h2.1, h2.2.1, h2.2.2.to' hG⟩
          | 12, ⟨B, d', h1, h2⟩ => exact ⟨B, d', h1, h2.1, h2.2.1, h2.2.2.to' hG⟩
          | n + 13, _ => exact trivial
        case steps => exact sane_12 w14 g ba oa ca bb ob cb p12 gs _ hExC HPy HCD _ (by kernel_rfl)
        case fin =>
          intro vals w' hI hR
          obtain ⟨A, c', h11, h11a⟩ := hR 11 (by decide)
          obtain ⟨B, d', h12, h12a⟩ := hR 12 (by decide)
          rw [putsA_list, putsL_split vals 8 101 ?hd ?hn ?hs]
          case hd => kernel_rfl
          case hn => kernel_rfl
          case hs => kernel_rfl
          simp only [List.take_succ_cons, List.take_zero, List.drop_succ_cons, List.drop_zero, List.range'_succ, List.range'_zero, List.map_cons, List.map_nil, List.cons_append, List.nil_append, putsL, List.set_cons_succ, List.set_cons_zero, h11, h12]
          go_wp2_with fail
          go_meet
          exact ⟨A, c', B, d', rfl, rfl, h11a, h12a, hI⟩
        -- F>
      case rest =>
        obtain ⟨w15, rfl⟩ : ∃ W : World, W = wc := ⟨_, rfl⟩
        obtain ⟨Ad, cd, Bd, dd, rfl, rfl, hsd, hse, hb1415⟩ := hcut
        have H15 := hide (And.intro hsd (And.intro hse hb1415))
        clear hsd hse hb1415
        go_upto_region 15 with (fail)
        have hb315 : Below w3.heap.size w3 w15 := bthen (bthen H4.out.1 (bthen H6.out.1 (bthen H8.out.2.1 (bthen H9.out.2 H10.out)))) (bthen HBx.out H15.out.2.2)
        have hb415 : Below w4.heap.size w4 w15 := bthen (bthen H6.out.1 (bthen H8.out.2.1 (bthen H9.out.2 H10.out))) (bthen HBx.out H15.out.2.2)
        have HS3 := hide (show ∀ W, Below w15.heap.size w15 W → SlR W W.heap.size 6 A3 exIt.length (exIt.flatMap cI) from fun W hW => H3.out.2.1.to' (bthen hb315 hW))
        have HS4 := hide (show ∀ W, Below w15.heap.size w15 W → SlR W W.heap.size 4 A4 n4 (rows4.flatMap cP) ∧ Pls W rows4 exPl from fun W hW => ⟨H4.out.2.2.1.to' (bthen hb415 hW), H4.out.2.2.2.1.to (bthen hb415 hW)⟩)
        have HEW := hide (show ∀ W, Below w15.heap.size w15 W → ExC W g ba oa ca bb ob cb from fun W hW => HEZ.out W (bthen H15.out.2.2 hW))
        clear hb315 hb415
        go_cut [24] from 142 to 165 (fun v wx => v = .bool true ∧ Below w15.heap.size w15 wx)
        case first =>
          have hExC := fun (w : World) (h : Below w15.heap.size w15 w) => HEW.out w h
          -- <F
          have hbI : ∀ {w w' : World}, Below w15.heap.size w15 w → Below w.heap.size w w' → Below w15.heap.size w15 w' := fun h k => bthen h k
          refine wp_noexit ?_
          refine wp_region_rely [some 142, some 143, some 144, some 145, some 146, some 147, some 148, some 149, some 150, some 151, some 152, some 153, some 154, some 155, some 156, some 157, some 158, some 159, some 160, some 161, some 162, some 163, some 164, some 165, some 24] [(1, .slice (some ⟨g, 0, none⟩) 2 2), (3, .slice A3 exIt.length c3), (5, .slice A4 n4 c4)] (fun k w w' => Below w.heap.size w w') (fun w => Below w15.heap.size w15 w) (fun _ => [])
            (sR15 g bb ob cb A3 A4 c3 n4 c4) (by kernel_rfl) (by kernel_rfl) (by kernel_rfl) (by kernel_rfl) ⟨rfl, rfl, rfl, trivial⟩ ?stab (bdrew (Below.refl _ _)) ?steps ?fin
          case stab =>
            intro i k us v w w' hne hR hG
            match i, hR with
            | 0, h => exact h
            | 1, h => exact h
            | 2, h => exact h
            | 3, h => exact h
            | 4, h => exact h
            | 5, h => exact h
            | 6, h => exact h
            | 7, h => exact h
            | 8, h => exact h
            | 9, ⟨gx, h1, h2⟩ => exact ⟨gx, h1, h2.below hG h2.lt⟩
            | 10, h => exact h
            | 11, h => exact h
            | 12, h => exact h
            | 13, ⟨gx, h1, h2⟩ => exact ⟨gx, h1, h2.below hG h2.lt⟩
            | 14, ⟨gx, h1, h2⟩ => exact ⟨gx, h1, h2.below hG h2.lt⟩
            | 15, ⟨gx, h1, h2⟩ => exact ⟨gx, h1, h2.below hG h2.lt⟩
            | 16, ⟨gx, h1, h2⟩ => exact ⟨gx, h1, h2.below hG h2.lt⟩
            | 17, ⟨gx, h1, h2⟩ => exact ⟨gx, h1, h2.below hG h2.lt⟩
            | 18, ⟨gx, h1, h2⟩ => exact ⟨gx, h1, h2.below hG h2.lt⟩
            | 19, ⟨gx, h1, h2⟩ => exact ⟨gx, h1, h2.below hG h2.lt⟩
            | 20, ⟨gx, h1, h2⟩ => exact ⟨gx, h1, h2.below hG h2.lt⟩
            | 21, ⟨gx, x1, x2, x3, x4, h1, h2, h3⟩ => exact ⟨gx, x1, x2, x3, x4, h1, h2.below hG h2.lt, h3.to hG⟩
            | 22, h => exact h
            | 23, h => exact h
            | 24, h => exact h
            | n + 25, _ => exact trivial
          case steps => exact sane_15 w15 g ba oa ca bb ob cb A3 A4 c3 n4 c4 rows4 _ hExC hn4 hc4 HS3 HS4 _ (by kernel_rfl)
          case fin =>
            intro vals w' hI hR
            have hlast : vals 24 = .bool true := hR 24 (by decide)
            rw [putsA_list, putsL_split vals 24 142 ?hd ?hn ?hs]
            case hd => kernel_rfl
            case hn => kernel_rfl
            case hs => kernel_rfl
            simp only [List.take_succ_cons, List.take_zero, List.drop_succ_cons, List.drop_zero, List.range'_succ, List.range'_zero, List.map_cons, List.map_nil, List.cons_append, List.nil_append, putsL, List.set_cons_succ, List.set_cons_zero, hlast]
            go_wp2_with fail
            go_meet
            exact ⟨rfl, hI⟩
          -- F>
        case rest =>
          obtain ⟨w16, rfl⟩ : ∃ W : World, W = wc := ⟨_, rfl⟩
          obtain ⟨rfl, hb1516⟩ := hcut
          have H16 := hide hb1516
          clear hb1516
          go_upto_region 16 with (fail)
          have hb816 : Below w8.heap.size w8 w16 := bthen (bthen H9.out.2 H10.out) (bthen (bthen HBx.out H15.out.2.2) H16.out)
          have hb1116 : Below w11.heap.size w11 w16 := bthen (bthen H12.out.1 (bthen H13.out.2 H14.out)) (bthen H15.out.2.2 H16.out)
          have HQ := hide (show ∀ W, Below w16.heap.size w16 W → Blk W w7.heap.size 45 (cC ⟨2004, 2, 1000, 1000, Aq, 1, cq, Bq, 0, dq⟩) from fun W hW => (H8.out.2.2.2.2.below hb816 H8.out.2.2.2.2.lt).below hW (H8.out.2.2.2.2.below hb816 H8.out.2.2.2.2.lt).lt)
          have HQC := hide (show ∀ W, Below w16.heap.size w16 W → CpR W ⟨2004, 2, 1000, 1000, Aq, 1, cq, Bq, 0, dq⟩ exRb from fun W hW => H8.out.2.2.1.to (bthen hb816 hW))
          have HQS := hide (show ∀ W, Below w16.heap.size w16 W → SlR W W.heap.size 6 Aq 1 (exRb.changes.flatMap cI) ∧ SlR W W.heap.size 1 A7 1 ([(1 : Int)].flatMap cN) from fun W hW => ⟨(HQC.out W hW).2.1.2.2, H8.out.2.2.2.1.to' (bthen hb816 hW)⟩)
          have HP13 := hide (show ∀ W, Below w16.heap.size w16 W → Blk W p13 27 [.int .i64 1, .slice Am 1 cm] ∧ SlR W W.heap.size 6 Am 1 (exIx.flatMap cI) from fun W hW => ⟨(H11.out.2.2.1.below hb1116 H11.out.2.2.1.lt).below hW (H11.out.2.2.1.below hb1116 H11.out.2.2.1.lt).lt, H11.out.2.2.2.1.to' (bthen hb1116 hW)⟩)
          clear hb816 hb1116
          go_cut [25] from 166 to 186 (fun v wx => v = .bool true ∧ Below w16.heap.size w16 wx)
          case first =>
            -- <F
            have hbI : ∀ {w w' : World}, Below w16.heap.size w16 w → Below w.heap.size w w' → Below w16.heap.size w16 w' := fun h k => bthen h k
            refine wp_region_rely [some 166, some 167, some 168, some 169, some 170, some 171, some 172, some 173, some 174, some 175, some 176, some 177, some 178, some 179, some 180, some 181, some 182, some 183, some 184, some 185, some 186, some 25] [(8, .pointer (some ⟨w7.heap.size, 0, none⟩)), (9, .slice A7 1 c7)] (fun k w w' => Below w.heap.size w w') (fun w => Below w16.heap.size w16 w) (fun _ => [])
              (sR16 w7.heap.size Aq cq Bq dq A7 c7) (by kernel_rfl) (by kernel_rfl) (by kernel_rfl) (by kernel_rfl) ⟨rfl, rfl, trivial⟩ ?stab (bdrew (Below.refl _ _)) ?steps ?fin
            case stab =>
              intro i k us v w w' hne hR hG
              match i, hR with
              | 0, h => exact h
              | 1, h => exact h
              | 2, h => exact h
              | 3, ⟨gx, h1, h2⟩ => exact ⟨gx, h1, h2.below hG h2.lt⟩
              | 4, h => exact h
              | 5, h => exact h
              | 6, h => exact h
              | 7, h => exact h
              | 8, h => exact h
              | 9, h => exact h
              | 10, h => exact h
              | 11, h => exact h
              | 12, h => exact h
              | 13, h => exact h
              | 14, h => exact h
              | 15, h => exact h
              | 16, h => exact h
              | 17, h => exact h
              | 18, ⟨gx, h1, h2⟩ => exact ⟨gx, h1, h2.below hG h2.lt⟩
              | 19, h => exact h
              | 20, h => exact h
              | 21, h => exact h
              | n + 22, _ => exact trivial
            case steps => exact sane_16 w7 w16 Aq cq Bq dq A7 c7 _ HQ HQS _ (by kernel_rfl)
            case fin =>
              intro vals w' hI hR
              have hlast : vals 21 = .bool true := hR 21 (by decide)
              rw [putsA_list, putsL_split vals 21 166 ?hd ?hn ?hs]
              case hd => kernel_rfl
              case hn => kernel_rfl
              case hs => kernel_rfl
              simp only [List.take_succ_cons, List.take_zero, List.drop_succ_cons, List.drop_zero, List.range'_succ, List.range'_zero, List.map_cons, List.map_nil, List.cons_append, List.nil_append, putsL, List.set_cons_succ, List.set_cons_zero, hlast]
              go_wp2_with fail
              go_meet
              exact ⟨rfl, hI⟩
            -- F>
          case rest =>
            obtain ⟨w17, rfl⟩ : ∃ W : World, W = wc := ⟨_, rfl⟩
            obtain ⟨rfl, hb1617⟩ := hcut
            have H17 := hide hb1617
            clear hb1617
            go_upto_region 17 with (fail)
            go_cut [26] from 187 to 201 (fun v wx => v = .bool true ∧ Below w16.heap.size w16 wx)
            case first =>
              -- <F
              have hbI : ∀ {w w' : World}, Below w16.heap.size w16 w → Below w.heap.size w w' → Below w16.heap.size w16 w' := fun h k => bthen h k
              refine wp_region_rely [some 187, some 188, some 189, some 190, some 191, some 192, some 193, some 194, some 195, some 196, some 197, some 198, some 199, some 200, some 201, some 26] [(13, .pointer (some ⟨p13, 0, none⟩)), (14, .slice Ag 0 cg)] (fun k w w' => Below w.heap.size w w') (fun w => Below w16.heap.size w16 w) (fun _ => [])
                (sR17 p13 Am cm Ag cg) (by kernel_rfl) (by kernel_rfl) (by kernel_rfl) (by kernel_rfl) ⟨rfl, rfl, trivial⟩ ?stab (bdrew H17.out) ?steps ?fin
              case stab =>
                intro i k us v w w' hne hR hG
                match i, hR with
                | 0, h => exact h
                | 1, h => exact h
                | 2, h => exact h
                | 3, ⟨gx, h1, h2⟩ => exact ⟨gx, h1, h2.below hG h2.lt⟩
                | 4, h => exact h
                | 5, h => exact h
                | 6, h => exact h
                | 7, h => exact h
                | 8, h => exact h
                | 9, h => exact h
                | 10, h => exact h
                | 11, h => exact h
                | 12, h => exact h
                | 13, h => exact h
                | 14, h => exact h
                | 15, h => exact h
                | n + 16, _ => exact trivial
              case steps => exact sane_17 w16 p13 Am cm Ag cg _ HP13 _ (by kernel_rfl)
              case fin =>
                intro vals w' hI hR
                have hlast : vals 15 = .bool true := hR 15 (by decide)
                rw [putsA_list, putsL_split vals 15 187 ?hd ?hn ?hs]
                case hd => kernel_rfl
                case hn => kernel_rfl
                case hs => kernel_rfl
                simp only [List.take_succ_cons, List.take_zero, List.drop_succ_cons, List.drop_zero, List.range'_succ, List.range'_zero, List.map_cons, List.map_nil, List.cons_append, List.nil_append, putsL, List.set_cons_succ, List.set_cons_zero, hlast]
                go_wp2_with fail
                go_meet
                exact ⟨rfl, hI⟩
              -- F>
            case rest =>
              obtain ⟨w18, rfl⟩ : ∃ W : World, W = wc := ⟨_, rfl⟩
              obtain ⟨rfl, hb1618⟩ := hcut
              have H18 := hide hb1618
              clear hb1618
              go_upto_region 18 with (fail)
              have hw18 : Below w14.heap.size w14 w18 := bthen (bthen H15.out.2.2 H16.out) H18.out
              have hx18 : Below (w1.alloc (.cells (cC r).toArray 45)).heap.size (w1.alloc (.cells (cC r).toArray 45)) w18 := bthen H13.out.1 (bthen H14.out hw18)
              have hw1218 : Below w12.heap.size w12 w18 := bthen (bthen H13.out.2 H14.out) hw18
              have hw1118 : Below w11.heap.size w11 w18 := bthen H12.out.1 hw1218
              have hmod : ∀ W, Below w18.heap.size w18 W → SlR W W.heap.size 2 (some ⟨g, 0, none⟩) 2 (rows.flatMap cM) ∧ Mods W rows exMs ∧ CpR W r exC := fun W hW => ⟨HW.out.2.2.1.to' (bthen hx18 hW), HW.out.2.2.2.1.to (bthen hx18 hW), HW.out.2.2.2.2.to (bthen hx18 hW)⟩
              have HMD := hide hmod
              have HXC := hide (show ∀ W, Below w18.heap.size w18 W → ExC W g ba oa ca bb ob cb from fun W hW => HEW.out W (bthen (bthen H16.out H18.out) hW))
              have HQC2 := hide (show ∀ W, Below w18.heap.size w18 W → CpR W ⟨2004, 2, 1000, 1000, Aq, 1, cq, Bq, 0, dq⟩ exRb from fun W hW => HQC.out W (bthen H18.out hW))
              have HV1 := hide (show ∀ W, Below w18.heap.size w18 W → Calls Try.prog 24 #[.slice (some ⟨g, 0, none⟩) 2 2] W (fun e w' => e = .returned (.bool true) ∧ Below W.heap.size W w') from fun W hW => calls_b (c_Valid (some ⟨g, 0, none⟩) 2 2 rows exMs W (by omega) (hmod W hW).1 (hmod W hW).2.1) ex_valid)
              have HV2 := hide (show ∀ W, Below w18.heap.size w18 W → Calls Try.prog 24 #[.slice (some ⟨g, 2, none⟩) 1 1] W (fun e w' => e = .returned (.bool false) ∧ Below W.heap.size W w') from fun W hW => by
                have h1 := (hmod W hW).1
                have h2 := (hmod W hW).2.1
                rw [hrows] at h1 h2
                exact calls_b (c_Valid (some ⟨g, 2, none⟩) 1 1 [⟨2, some ⟨bb, ob, none⟩, 2, cb⟩] [⟨2, ex2⟩] W (by omega) (slr_tailM h1) h2.tail) ex_valid1)
              have HP1 := hide (show ∀ W, Below w18.heap.size w18 W → Calls Try.prog 31 #[mrV ⟨2, some ⟨bb, ob, none⟩, 2, cb⟩] W (fun e w' => e = .returned (.bool true) ∧ Below W.heap.size W w') from fun W hW => by
                have h2 := (hmod W hW).2.1
                rw [hrows] at h2
                exact calls_b (c_Proper ⟨2, some ⟨bb, ob, none⟩, 2, cb⟩ ex2 W (by show 2 ≤ _; omega) (h2.2 1 (by simp) (by decide)).2.2.2) ex_prop)
              have HP0 := hide (show ∀ W, Below w18.heap.size w18 W → Calls Try.prog 31 #[mrV ⟨0, none, 0, 0⟩] W (fun e w' => e = .returned (.bool false) ∧ Below W.heap.size W w') from fun W hW => calls_b (c_Proper ⟨0, none, 0, 0⟩ [] W (by show 0 ≤ _; omega) SlR.nil) (by rfl))
              have HVC := hide (show ∀ W, Below w18.heap.size w18 W → Calls Try.prog 32 #[.slice (some ⟨g, 0, none⟩) 2 2, crV r] W (fun e w' => e = .returned (.bool true) ∧ Below W.heap.size W w') from fun W hW => calls_b (c_ValidCopy (some ⟨g, 0, none⟩) 2 2 rows exMs r exC W (by omega) (hmod W hW).1 (hmod W hW).2.1 (hmod W hW).2.2) ex_v)
              have HPC := hide (show ∀ W, Below w18.heap.size w18 W → Calls Try.prog 33 #[crV r] W (fun e w' => e = .returned (.bool true) ∧ Below W.heap.size W w') from fun W hW => calls_b (c_ProperCopy r exC W (hmod W hW).2.2) ex_cpOk)
              have HPZ := hide (show ∀ W, Below w18.heap.size w18 W → Calls Try.prog 33 #[crV zCR] W (fun e w' => e = .returned (.bool false) ∧ Below W.heap.size W w') from fun W hW => calls_b (c_ProperCopy zCR zCp W ⟨⟨rfl, rfl, rfl, rfl⟩, ⟨Nat.le_refl _, by decide, SlR.nil⟩, ⟨Nat.le_refl _, by decide, SlR.nil⟩⟩) ex_zcp)
              have HSW := hide (show ∀ W, Below w18.heap.size w18 W → Calls Try.prog 34 #[mrV ⟨2, aw2, 1, cw2⟩, mrV ⟨2, some ⟨w5.heap.size, 0, none⟩, 1, 1⟩] W (fun e w' => e = .returned (.bool true) ∧ Below W.heap.size W w') from fun W hW =>
                calls_b (c_Same ⟨2, aw2, 1, cw2⟩ ⟨2, some ⟨w5.heap.size, 0, none⟩, 1, 1⟩ exNx.items exNx.items W (by show 1 ≤ _; omega) (by show 1 ≤ _; omega) ((H12.out.2.2.1.to (bthen hw1218 hW)).2 1 (by simp) (by decide)).2.2.2 (H6.out.2.2.1.to' (bthen (bthen H11.out.2.1 hw1118) hW))) (by simp))
              have HS0 := hide (show ∀ W, Below w18.heap.size w18 W → Calls Try.prog 34 #[mrV ⟨1, some ⟨ba, oa, none⟩, 2, ca⟩, mrV ⟨2, some ⟨bb, ob, none⟩, 2, cb⟩] W (fun e w' => e = .returned (.bool false) ∧ Below W.heap.size W w') from fun W hW => by
                have h2 := (hmod W hW).2.1
                rw [hrows] at h2
                exact calls_b (c_Same ⟨1, some ⟨ba, oa, none⟩, 2, ca⟩ ⟨2, some ⟨bb, ob, none⟩, 2, cb⟩ ex1 ex2 W (by show 2 ≤ _; omega) (by show 2 ≤ _; omega) (h2.2 0 (by simp) (by decide)).2.2.2 (h2.2 1 (by simp) (by decide)).2.2.2) (by rfl))
              have HCC := hide (show ∀ W, Below w18.heap.size w18 W → Calls Try.prog 35 #[crV r, crV r] W (fun e w' => e = .returned (.bool true) ∧ Below W.heap.size W w') from fun W hW => calls_b (c_SameCopy r r exC exC W (hmod W hW).2.2 (hmod W hW).2.2) ex_sc)
              have HCE := hide (show ∀ W, Below w18.heap.size w18 W → Calls Try.prog 35 #[crV r, crV ⟨2004, 2, 1000, 1000, Aq, 1, cq, Bq, 0, dq⟩] W (fun e w' => e = .returned (.bool false) ∧ Below W.heap.size W w') from fun W hW => calls_b (c_SameCopy r ⟨2004, 2, 1000, 1000, Aq, 1, cq, Bq, 0, dq⟩ exC exRb W (hmod W hW).2.2 (HQC2.out W hW)) ex_sc2)
              have HLD := hide (show ∀ W, Below w18.heap.size w18 W → Blk W w1.heap.size 45 (cC r) ∧ Blk W (w5.heap.size + 1) 27 [.int .i64 2, .slice (some ⟨w5.heap.size, 0, none⟩) 1 1] ∧ Blk W w7.heap.size 45 (cC ⟨2004, 2, 1000, 1000, Aq, 1, cq, Bq, 0, dq⟩) ∧ W.cell? ⟨bw, ow + 2, none⟩ = some (.int .i64 2) ∧ W.cell? ⟨bw, ow + 2 + 1, none⟩ = some (.slice aw2 1 cw2) from fun W hW => by
                have h1 := H4.out.2.2.2.2
                have hb418 : Below w4.heap.size w4 w18 := bthen (bthen H6.out.1 (bthen H8.out.2.1 (bthen H9.out.2 H10.out))) (bthen HBx.out hw18)
                have h2 := H11.out.2.2.2.2.1
                refine ⟨(h1.below hb418 h1.lt).below hW (h1.below hb418 h1.lt).lt, (h2.below hw1118 h2.lt).below hW (h2.below hw1118 h2.lt).lt, HQ.out W (bthen H18.out hW), ?_, ?_⟩
                · obtain ⟨b, off, e, _, k1, k2⟩ := H12.out.2.1.atM (bthen hw1218 hW) (k := 1) (by simp)
                  cases e
                  simpa using k1
                · obtain ⟨b, off, e, _, k1, k2⟩ := H12.out.2.1.atM (bthen hw1218 hW) (k := 1) (by simp)
                  cases e
                  simpa using k2)
              have HSD := hide (show ∀ W, Below w18.heap.size w18 W → SlR W W.heap.size 6 Ad 1 (exIx.flatMap cI) ∧ SlR W W.heap.size 1 Bd 1 ([(3 : Int)].flatMap cN) from fun W hW => ⟨H15.out.1.2.2.to' (bthen (bthen H16.out H18.out) hW), H15.out.2.1.2.2.to' (bthen (bthen H16.out H18.out) hW)⟩)
              have HB18 := hide hx18
              clear hw18 hx18 hw1218 hw1118 hmod
              go_wp2_with fail
              refine (c_box 5 20 0 ⟨#[120]⟩ w18).mono ?_
              rintro e w19 ⟨rfl, hb19⟩
              have hk1 : Blk (w19.alloc (.cells #[.int .i64 5, .int .i64 1, .int .i64 20, .int .i64 0, .string ⟨#[120]⟩, .int .i64 0] 36)) w19.heap.size 36 (exIx.flatMap cI) := Blk.new w19 36 (exIx.flatMap cI)
              have hb19' := bthen hb19 (balloc (Below.refl w19.heap.size w19) (.cells #[.int .i64 5, .int .i64 1, .int .i64 20, .int .i64 0, .string ⟨#[120]⟩, .int .i64 0] 36))
              have hc19 := calls_b (c_rSameItems Ad 1 cd exIx (some ⟨w19.heap.size, 0, none⟩) 1 1 exIx _ (by decide) (by decide) (HSD.out _ hb19').1 (hk1.slr rfl)) (b' := true) (by simp)
              clear hk1
              have HH19 := hide hb19'
              clear hb19' hb19
              go_wp2_with fail
              refine hc19.mono ?_
              clear hc19
              rintro e w20 ⟨rfl, hb20⟩
              have hk2 := Blk.new w20 3 [.int .i64 3]
              have hb20' := bthen (bthen HH19.out hb20) (balloc (Below.refl w20.heap.size w20) (.cells #[.int .i64 3] 3))
              have hc20 := calls_b (c_rInts Bd 1 dd [3] (some ⟨w20.heap.size, 0, none⟩) 1 1 [3] _ (by decide) (by decide) (HSD.out _ hb20').2 (hk2.slr rfl)) (b' := true) (by simp)
              clear hk2
              have HH20 := hide hb20'
              clear hb20' hb20
              go_wp2_with fail
              refine hc20.mono ?_
              clear hc20
              rintro e x0 ⟨rfl, hb21⟩
              have HH0 := hide (bthen HH20.out hb21)
              clear hb21
              go_upto_region 19 with (fail)
              simp only [List.append_eq, List.cons_append, List.nil_append]
              refine wp_region_rely [some 211, some 212, some 213, some 214, some 215, some 216, some 217, some 218, some 219, some 220, some 221, some 222, some 223, some 224, some 225, some 226, some 227, some 228, some 229, some 230, some 231, some 232, some 233, some 234, some 235, some 236, some 237, some 238, some 239, some 240, some 241, some 242, some 243, some 244, some 245, some 246, some 247, some 248, some 249, some 250, some 251, some 252, some 253, some 254, some 255, some 256, some 257, some 258, some 259, some 260, some 261, some 262, some 263, some 264, some 265, some 266, some 267, some 268, some 269, some 270, some 271, some 272, some 273, some 274, some 275, some 276, some 277, some 278, some 279, some 280, some 281, some 282, some 283, some 0] [(1, .slice (some ⟨g, 0, none⟩) 2 2), (2, .pointer (some ⟨w1.heap.size, 0, none⟩)), (7, .pointer (some ⟨w5.heap.size + 1, 0, none⟩)), (8, .pointer (some ⟨w7.heap.size, 0, none⟩)), (16, .slice (some ⟨bw, ow, none⟩) 2 cw), (24, .bool true), (25, .bool true), (26, .bool true), (27, .bool true)] (fun _ w w' => Below w.heap.size w w') (fun w => Below w18.heap.size w18 w) (fun _ => []) (fun i _ v _ => sR19 g ba oa ca bb ob cb bw ow cw w1.heap.size w5.heap.size w7.heap.size r aw2 cw2 Aq cq Bq dq i v) (by kernel_rfl) (by kernel_rfl) (by kernel_rfl) (by kernel_rfl) ⟨rfl, rfl, rfl, rfl, rfl, rfl, rfl, rfl, rfl, trivial⟩ (fun _ _ _ _ _ _ _ h _ => h) (bdrew HH0.out) ?steps ?fin
              case steps => exact sane_19 w1 w5 w7 w18 g ba oa ca bb ob cb bw ow cw r aw2 cw2 Aq cq Bq dq _ HXC HV1 HV2 HP1 HP0 HVC HPC HPZ HSW HS0 HCC HCE HLD _ (by kernel_rfl)
              case fin =>
                intro vals w' hI hR
                have hlast : vals 73 = .bool true := hR 73 (by decide)
                rw [putsA_list, putsL_split vals 73 211 ?hd ?hn ?hs]
                case hd => kernel_rfl
                case hn => kernel_rfl
                case hs => kernel_rfl
                simp only [List.take_succ_cons, List.take_zero, List.drop_succ_cons, List.drop_zero, List.range'_succ, List.range'_zero, List.map_cons, List.map_nil, List.cons_append, List.nil_append, putsL, List.set_cons_succ, List.set_cons_zero, hlast]
                have HZ := hide (bthen (bthen (bthen HW.out.1 HW.out.2.1) HB18.out) hI)
                clear hI hR
                go_wp2_with fail
                go_ret
                exact ⟨rfl, HZ.out⟩
end Go.Proofs.Ytncdombfhcfobaa
