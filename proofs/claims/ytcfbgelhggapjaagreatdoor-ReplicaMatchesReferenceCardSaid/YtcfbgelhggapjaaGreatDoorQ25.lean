/- The law against the reference: the round. -/
import Derived.Test.YtcfbgelhggapjaaGreatDoorQ23
import Derived.Test.YtcfbgelhggapjaaGreatDoorQ24
namespace Go.Proofs.YtcfbgelhggapjaaGreatDoor
open Go.RowKit Go.Shelf
set_option linter.unusedSimpArgs false in
set_option linter.unusedVariables false in
set_option maxRecDepth 100000 in
set_option maxHeartbeats 16000000 in
/-- one round of the law's loop -/
theorem rnd1 (w wL wo : World) (b7 g5 o5 c5 : Nat) (es : List En) (L : List (List Rc)) (m0 m1 m2 m3 : Int) (tx : ByteArray) (k : Nat) (a : Act) (Q : Exit → Act → World → Prop) (hz : a.tmps.size = 359) (hd : a.defers = []) (h3 : sl a 3 = .string tx) (h7 : sl a 7 = .pointer (some ⟨b7, 0, none⟩)) (h12 : sl a 12 = .slice (some ⟨g5, o5, none⟩) 4 c5) (h13 : sl a 13 = .int .i64 k) (hk4 : k < 4) (hm : ok4 (m0, m1, m2, m3)) (hc54 : 4 ≤ c5) (hc5' : c5 ≤ 9223372036854775807)
    (hbs : ∀ W, Below wL.heap.size wL W → Fo W (some ⟨g5, o5, none⟩) c5 es L ∧ Blk W b7 26 [.int .i64 m0, .int .i64 m1, .int .i64 m2, .int .i64 m3] ∧ RL W ∧ Below w.heap.size w W) (hbW : Below wL.heap.size wL wo)
    (hQ : ∀ (a' : Act) (W : World), Kp [4, 11, 13, 3, 7, 12, 13] a a' → Below wL.heap.size wL W → Q .normal a' W) (hP : ∀ c (a : Act) (d : Nat) v w, Q (.panic c) (a.put (some d) v) w → Q (.panic c) a w) : (blk 1).wp Tryz.prog Q a wo := by
  conv => arg 2; whnf
  rw [show Code.block 2 _ = blk 2 from rfl, show Code.block 4 _ = blk 4 from rfl, show Code.block 6 _ = blk 6 from rfl]
  obtain ⟨u, rfl⟩ : ∃ u, a = frm u := ⟨sl a, act_frm hz hd⟩
  clear hz hd
  rw [sl_frm u 3 (by decide)] at h3
  rw [sl_frm u 7 (by decide)] at h7
  rw [sl_frm u 12 (by decide)] at h12
  rw [sl_frm u 13 (by decide)] at h13
  have H3 := hide h3
  have H7 := hide h7
  have H12 := hide h12
  have H13 := hide h13
  have HQ0 := hide hQ
  unfold frm
  rw [h3, h7, h12, h13]
  clear hQ h3 h7 h12 h13
  have HMk := hide hm
  have HBs := hide hbs
  clear hm hbs
  have hki : (k : Int) < 4 := by omega
  have HW := hide hbW
  obtain ⟨gF, gA4, gR, gw⟩ := HBs.out wo hbW
  obtain ⟨x0, x1⟩ := gF.cells hk4
  have hok := gF.ok k hk4
  obtain ⟨l, hl⟩ : ∃ l, L[k]! = l := ⟨_, rfl⟩
  obtain ⟨e, he⟩ : ∃ e, es[k]! = e := ⟨_, rfl⟩
  rw [he] at x0 x1 hok
  rw [hl] at hok
  obtain ⟨rP, rA, rn, rc⟩ := e
  obtain ⟨hln, hnc, hcc, hsl⟩ := hok
  dsimp only at x0 x1 hln hnc hcc hsl
  have HLn := hide hln
  have hg5o : g5 < wo.heap.size := by
    obtain ⟨g, o, e, h⟩ := gF.some
    simp only [Option.some.injEq, Addr.mk.injEq] at e
    omega
  clear gF gA4 gR gw hln hbW
  go_upto_region 10 with (fail)
  have g14 : Bx (wo.alloc (.cells #[.int .i64 rP, .slice rA rn rc] 25)) wo.heap.size rP rA rn rc l := ⟨Blk.new wo 25 [.int .i64 rP, .slice rA rn rc], hsl.to' (balloc (Below.refl _ _) _), hnc, hcc⟩
  have hb14 := balloc (Below.refl wo.heap.size wo) (.cells #[.int .i64 rP, .slice rA rn rc] 25)
  generalize wo.alloc (.cells #[.int .i64 rP, .slice rA rn rc] 25) = w14 at *
  have HQ : Hid (∀ W, Below w14.heap.size w14 W → Bx W wo.heap.size rP rA rn rc l ∧ Fo W (some ⟨g5, o5, none⟩) c5 es L ∧ Blk W (b7) 26 [.int .i64 m0, .int .i64 m1, .int .i64 m2, .int .i64 m3] ∧ RL W ∧ Below wL.heap.size wL W) := hide (fun W h => ⟨g14.to h, (HBs.out W (bthen HW.out (bthen hb14 h))).1, (HBs.out W (bthen HW.out (bthen hb14 h))).2.1, (HBs.out W (bthen HW.out (bthen hb14 h))).2.2.1, bthen HW.out (bthen hb14 h)⟩)
  clear x0 x1 hsl hb14 g14
  obtain ⟨o1, ho1⟩ : ∃ o, (if vrB rP l then some (foldL l) else none) = o := ⟨_, rfl⟩
  obtain ⟨n1, hn1⟩ : ∃ n, (oL o1).length = n := ⟨_, rfl⟩
  have HN1 := hide (And.intro ho1 hn1)
  obtain ⟨e1, he1⟩ : ∃ e, oE o1 = e := ⟨_, rfl⟩
  have HE1 := hide he1
  clear ho1 hn1 he1
  obtain ⟨x0, x1, x2⟩ := (HQ.out w14 (Below.refl _ _)).1.cells
  go_upto_region 11 with (go_at_call 13; refine (c_pFold rP rA rn rc l w14 (HQ.out w14 (Below.refl _ _)).2.2.2.1 (by omega) (HQ.out w14 (Below.refl _ _)).1.slr).mono ?_; rintro e w15 hp; rw [HN1.out.1] at hp; obtain ⟨hb, A15, c15, rfl, h15, h15', hsn⟩ := BehPost.uni HN1.out.2 hp; rw [HE1.out]; clear hp x0 x1 x2; have HB15 := hide hb; have H15 : Hid (∀ W, Below w15.heap.size w15 W → SlR W W.heap.size 7 A15 n1 ((oL o1).flatMap cR)) := hide (fun W h => hsn.1.to' h); clear hb hsn; obtain ⟨x0, x1, x2⟩ := (HQ.out w15 HB15.out).1.cells)
  go_upto_region 12 with (go_at_call 14; refine (c_rFold rP rA rn rc l w15 (by omega) (HQ.out w15 HB15.out).1.slr).mono ?_; rintro e w16 hp; rw [HN1.out.1] at hp; obtain ⟨hb, A17, c17, rfl, h17, h17', hsn⟩ := BehPost.uni HN1.out.2 hp; rw [HE1.out]; clear hp x0 x1 x2; have HB16 := hide (And.intro (bthen HB15.out hb) hb); have H17 : Hid (∀ W, Below w16.heap.size w16 W → SlR W W.heap.size 7 A15 n1 ((oL o1).flatMap cR) ∧ SlR W W.heap.size 7 A17 n1 ((oL o1).flatMap cR)) := hide (fun W h => ⟨H15.out W (bthen hb h), hsn.1.to' h⟩); clear hb hsn)
  obtain ⟨vb, hvb⟩ : ∃ b, vrB rP l = b := ⟨_, rfl⟩
  have hs1 : Hid (∀ W, Below w16.heap.size w16 W → Calls Tryz.prog 15 #[.slice A15 n1 c15, .slice A17 n1 c17] W fun e w' => e = .returned (.bool true) ∧ Below W.heap.size W w') := hide (fun W h => by
    have := c_rSameRecords A15 n1 c15 (oL o1) A17 n1 c17 (oL o1) W (by omega) (by omega) (H17.out W h).1 (H17.out W h).2
    rw [decide_eq_true rfl] at this
    exact this)
  have hs2 : Hid (∀ W, Below w16.heap.size w16 W → Calls Tryz.prog 16 #[.agg #[.int .i64 rP, .slice rA rn rc]] W fun e w' => e = .returned (.bool vb) ∧ Below W.heap.size W w') := hide (fun W h => by
    have := c_pValid rP rA rn rc l W (HQ.out W (bthen HB16.out.1 h)).2.2.2.1 (HQ.out W (bthen HB16.out.1 h)).1.slr (by omega)
    rw [hvb] at this
    exact this)
  have hs3 : Hid (∀ W, Below w16.heap.size w16 W → Calls Tryz.prog 17 #[.agg #[.int .i64 rP, .slice rA rn rc]] W fun e w' => e = .returned (.bool vb) ∧ Below W.heap.size W w') := hide (fun W h => by
    have := c_rValid rP rA rn rc l W (HQ.out W (bthen HB16.out.1 h)).1.slr (by omega)
    rw [hvb] at this
    exact this)
  have f1 := fun x : BW w16 => (HQ.out x.val (bthen HB16.out.1 x.ok)).1.cells.1
  have f2 := fun x : BW w16 => (HQ.out x.val (bthen HB16.out.1 x.ok)).1.cells.2.1
  clear hvb
  go_wp2_with fail
  refine wp_region_bw w16 (Below.refl _ _) (by kernel_rfl) (by kernel_rfl) ?_
  repeat (go_big_quiet_step (first | (go_at_call 15; exact bw_call (hs1.out _ (BW.ok _))) | (go_at_call 16; exact bw_call (hs2.out _ (BW.ok _))) | (go_at_call 17; exact bw_call (hs3.out _ (BW.ok _)))))
  refine wpQuiet_nil ?_
  intro w17 hb17
  have HB17 := hide (bthen HB16.out.1 hb17)
  clear hb17 f1 f2 hs1 hs2 hs3 H17 H15
  go_upto_region 14 with (fail)
  obtain ⟨o2, ho2⟩ : ∃ o, addM rP l ⟨0, 0, m0, -1, 0, m3, tx⟩ = o := ⟨_, rfl⟩
  obtain ⟨n2, hn2⟩ : ∃ n, (oL o2).length = n := ⟨_, rfl⟩
  obtain ⟨e2, he2⟩ : ∃ e, oE o2 = e := ⟨_, rfl⟩
  obtain ⟨p2, hp2⟩ : ∃ e, oP rP o2 = e := ⟨_, rfl⟩
  have HN2 := hide (And.intro ho2 (And.intro hn2 (And.intro he2 hp2)))
  clear ho2 hn2 he2 hp2
  obtain ⟨x0, x1, x2⟩ := (HQ.out w17 HB17.out).1.cells
  obtain ⟨y0, y1, y2, y3⟩ := blk4 (HQ.out w17 HB17.out).2.2.1
  have yl := (HQ.out w17 HB17.out).2.2.1.lt
  go_upto_region 15 with (go_at_call 18; refine (c_pAdd rP m0 m3 tx rA rn rc l w17 (HQ.out w17 HB17.out).2.2.2.1 hnc hcc (HQ.out w17 HB17.out).1.slr).mono ?_; rintro e w18 hp; rw [HN2.out.1] at hp; obtain ⟨hb, A19, c19, rfl, h19, h19', hsn⟩ := RepPost.uni HN2.out.2.1 hp; rw [HN2.out.2.2.1, HN2.out.2.2.2]; clear hp x0 x1 x2 y0 y1 y2 y3 yl; have H18 := hide (And.intro hb (And.intro hsn (And.intro h19 h19'))); clear hb hsn)
  have g19 : Bx (w18.alloc (.cells #[.int .i64 p2, .slice A19 n2 c19] 25)) w18.heap.size p2 A19 n2 c19 (oL o2) := ⟨Blk.new w18 25 [.int .i64 p2, .slice A19 n2 c19], H18.out.2.1.1.to' (balloc (Below.refl _ _) _), h19, h19'⟩
  have hb19 := balloc H18.out.1 (.cells #[.int .i64 p2, .slice A19 n2 c19] 25)
  generalize w18.alloc (.cells #[.int .i64 p2, .slice A19 n2 c19] 25) = w19 at *
  have HB19 := hide (And.intro (bthen HB17.out hb19) hb19)
  have H19 := hide g19
  have hle19 : w14.heap.size ≤ w18.heap.size := (bthen HB17.out H18.out.1).size
  clear g19 hb19
  obtain ⟨x0, x1, x2⟩ := (HQ.out w19 HB19.out.1).1.cells
  obtain ⟨y0, y1, y2, y3⟩ := blk4 (HQ.out w19 HB19.out.1).2.2.1
  have yl := (HQ.out w19 HB19.out.1).2.2.1.lt
  go_upto_region 16 with (go_at_call 19; refine (c_rAdd rP m0 m3 tx rA rn rc l w19 hnc hcc (HQ.out w19 HB19.out.1).1.slr).mono ?_; rintro e w20 hp; rw [HN2.out.1] at hp; obtain ⟨hb, A21, c21, rfl, h21, h21', hsn⟩ := RepPost.uni HN2.out.2.1 hp; rw [HN2.out.2.2.1, HN2.out.2.2.2]; clear hp x0 x1 x2 y0 y1 y2 y3 yl; have H20 := hide (And.intro hb (And.intro hsn (And.intro h21 h21'))); clear hb hsn)
  have g21 : Bx (w20.alloc (.cells #[.int .i64 p2, .slice A21 n2 c21] 25)) w20.heap.size p2 A21 n2 c21 (oL o2) := ⟨Blk.new w20 25 [.int .i64 p2, .slice A21 n2 c21], H20.out.2.1.1.to' (balloc (Below.refl _ _) _), h21, h21'⟩
  have hb21 := balloc H20.out.1 (.cells #[.int .i64 p2, .slice A21 n2 c21] 25)
  generalize w20.alloc (.cells #[.int .i64 p2, .slice A21 n2 c21] 25) = w21 at *
  have HB21 := hide (And.intro (bthen HB19.out.1 hb21) hb21)
  have hle21 : w19.heap.size ≤ w20.heap.size := H20.out.1.size
  have hl19 : w18.heap.size < w19.heap.size := H19.out.cells.2.2
  have H21 : Hid (∀ W, Below w21.heap.size w21 W → Bx W w18.heap.size p2 A19 n2 c19 (oL o2) ∧ Bx W w20.heap.size p2 A21 n2 c21 (oL o2)) := hide (fun W h => ⟨H19.out.to (bthen HB21.out.2 h), g21.to h⟩)
  clear g21 hb21
  have hs1 : Calls Tryz.prog 20 #[.agg #[.int .i64 p2, .slice A19 n2 c19], .agg #[.int .i64 p2, .slice A21 n2 c21]] w21 fun e w' => e = .returned (.bool true) ∧ Below w21.heap.size w21 w' := by
    have := c_rSame p2 A19 n2 c19 (oL o2) p2 A21 n2 c21 (oL o2) w21 (by omega) (by omega) (H21.out w21 (Below.refl _ _)).1.slr (H21.out w21 (Below.refl _ _)).2.slr
    rw [decide_eq_true rfl, decide_eq_true rfl] at this
    exact this
  obtain ⟨x0, x1, x2⟩ := (H21.out w21 (Below.refl _ _)).1.cells
  obtain ⟨y0, y1, y2⟩ := (H21.out w21 (Below.refl _ _)).2.cells
  go_upto_region 18 with (go_at_call 20; refine hs1.mono ?_; clear hs1 x0 x1 x2 y0 y1 y2; rintro e w22 ⟨rfl, hb⟩; have HB22 := hide (bthen HB21.out.1 hb); have H22 : Hid (∀ W, Below w22.heap.size w22 W → Bx W w18.heap.size p2 A19 n2 c19 (oL o2) ∧ Bx W w20.heap.size p2 A21 n2 c21 (oL o2)) := hide (fun W h => H21.out W (bthen hb h)); clear hb)
  have hu1 := pk_range m1 3 (by omega)
  have hu2 := pk_range m2 6 (by omega)
  have hp1 : ∀ W : World, Calls Tryz.prog 21 #[.int .i64 m1, .int .i64 3] W fun e w' => e = .returned (.int .i64 (pk m1 3)) ∧ W = w' := fun W => c_lpick m1 3 W HMk.out.2.1.1 HMk.out.2.1.2 (by omega) (by omega)
  have hp2 : ∀ W : World, Calls Tryz.prog 21 #[.int .i64 m2, .int .i64 6] W fun e w' => e = .returned (.int .i64 (pk m2 6)) ∧ W = w' := fun W => c_lpick m2 6 W HMk.out.2.2.1.1 HMk.out.2.2.1.2 (by omega) (by omega)
  generalize pk m1 3 = u1 at *
  generalize pk m2 6 = u2 at *
  have HAW := hide (show wrap64 (1 + u2) = 1 + u2 ∧ IntKind.i64.wrap (1 + u2) = 1 + u2 from ⟨Go.IntWalk.wrap64_in _ (by omega), i64w (by omega) (by omega)⟩)
  have HS : Hid (∀ W, Below w22.heap.size w22 W → W.cell? ⟨b7, 1, none⟩ = some (.int .i64 m1) ∧ W.cell? ⟨b7, 2, none⟩ = some (.int .i64 m2)) := hide (fun W h => by
    obtain ⟨y0, y1, y2, y3⟩ := blk4 (HQ.out W (bthen HB22.out h)).2.2.1
    exact ⟨y1, y2⟩)
  have hl7 : b7 < w22.heap.size := (HQ.out w22 HB22.out).2.2.1.lt
  go_upto_region 18 with (fail)
  refine wp_region_held_drew (S := fun W => W.cell? ⟨b7, 1, none⟩ = some (.int .i64 m1) ∧ W.cell? ⟨b7, 2, none⟩ = some (.int .i64 m2)) (by kernel_rfl) (HS.out _ (bdrew (Below.refl _ _))) (fun hHeld => ?_)
  obtain ⟨haw, haw2⟩ := HAW.out
  refine wpAnyH_take (i := 0) (v := ?_) rfl (by kernel_rfl) (by kernel_rfl) (by kernel_rfl) (fun _ _ _ h => hP _ _ _ _ _ h) (Or.inl ⟨by rfl, ?hy1⟩) (by assumption) ?rs1
  case hy1 => (intro w hSw; (try dsimp only at hSw); go_simp; try (with_reducible rfl))
  (try simp only [Act.put, List.setIfInBounds_toArray, List.set_cons_zero, List.set_cons_succ, List.getElem_toArray, List.getElem_cons_zero, List.getElem_cons_succ])
  refine wpAnyH_take (i := 1) (v := ?_) rfl (by kernel_rfl) (by kernel_rfl) (by kernel_rfl) (fun _ _ _ h => hP _ _ _ _ _ h) (Or.inl ⟨by rfl, ?hy2⟩) (by assumption) ?rs2
  case hy2 => (intro w hSw; (try dsimp only at hSw); go_simp; try (with_reducible rfl))
  (try simp only [Act.put, List.setIfInBounds_toArray, List.set_cons_zero, List.set_cons_succ, List.getElem_toArray, List.getElem_cons_zero, List.getElem_cons_succ])
  refine wpAnyH_take (i := 2) (v := ?_) rfl (by kernel_rfl) (by kernel_rfl) (by kernel_rfl) (fun _ _ _ h => hP _ _ _ _ _ h) (Or.inl ⟨by rfl, ?hy3⟩) (by assumption) ?rs3
  case hy3 => (intro w hSw; (try dsimp only at hSw); go_simp; try (with_reducible rfl))
  (try simp only [Act.put, List.setIfInBounds_toArray, List.set_cons_zero, List.set_cons_succ, List.getElem_toArray, List.getElem_cons_zero, List.getElem_cons_succ])
  refine wpAnyH_take (i := 3) (v := ?_) rfl (by kernel_rfl) (by kernel_rfl) (by kernel_rfl) (fun _ _ _ h => hP _ _ _ _ _ h) (Or.inl ⟨by rfl, ?hy4⟩) (by assumption) ?rs4
  case hy4 => (intro w hSw; (try dsimp only at hSw); go_simp; try (with_reducible rfl))
  (try simp only [Act.put, List.setIfInBounds_toArray, List.set_cons_zero, List.set_cons_succ, List.getElem_toArray, List.getElem_cons_zero, List.getElem_cons_succ])
  refine wpAnyH_take (i := 4) (v := ?_) rfl (by kernel_rfl) (by kernel_rfl) (by kernel_rfl) (fun _ _ _ h => hP _ _ _ _ _ h) (Or.inl ⟨by rfl, ?hy5⟩) (by assumption) ?rs5
  case hy5 => (intro w hSw; (try dsimp only at hSw); go_simp; try (with_reducible rfl))
  (try simp only [Act.put, List.setIfInBounds_toArray, List.set_cons_zero, List.set_cons_succ, List.getElem_toArray, List.getElem_cons_zero, List.getElem_cons_succ])
  refine wpAnyH_take (i := 5) (v := ?_) rfl (by kernel_rfl) (by kernel_rfl) (by kernel_rfl) (fun _ _ _ h => hP _ _ _ _ _ h) (Or.inl ⟨by rfl, ?hy6⟩) (by assumption) ?rs6
  case hy6 => (intro w hSw; (try dsimp only at hSw); go_simp; try (with_reducible rfl))
  (try simp only [Act.put, List.setIfInBounds_toArray, List.set_cons_zero, List.set_cons_succ, List.getElem_toArray, List.getElem_cons_zero, List.getElem_cons_succ])
  refine wpAnyH_take (i := 6) (v := ?_) rfl (by kernel_rfl) (by kernel_rfl) (by kernel_rfl) (fun _ _ _ h => hP _ _ _ _ _ h) (Or.inl ⟨by rfl, ?hy7⟩) (by assumption) ?rs7
  case hy7 => (intro w hSw; (try dsimp only at hSw); go_simp; try (with_reducible rfl))
  (try simp only [Act.put, List.setIfInBounds_toArray, List.set_cons_zero, List.set_cons_succ, List.getElem_toArray, List.getElem_cons_zero, List.getElem_cons_succ])
  refine wpAnyH_call (i := 7) rfl (by kernel_rfl) (by kernel_rfl) (by kernel_rfl) (fun _ _ _ h => hP _ _ _ _ _ h) (by rfl) ?he8 (fun w hSw => (hp1 w)) (by assumption) ?rs8
  case he8 => (intro w hSw; (try dsimp only at hSw); go_simp)
  (try simp only [Act.put, List.setIfInBounds_toArray, List.set_cons_zero, List.set_cons_succ, List.getElem_toArray, List.getElem_cons_zero, List.getElem_cons_succ])
  refine wpAnyH_take (i := 8) (v := ?_) rfl (by kernel_rfl) (by kernel_rfl) (by kernel_rfl) (fun _ _ _ h => hP _ _ _ _ _ h) (Or.inl ⟨by rfl, ?hy9⟩) (by assumption) ?rs9
  case hy9 => (intro w hSw; (try dsimp only at hSw); go_simp; try (with_reducible rfl))
  (try simp only [Act.put, List.setIfInBounds_toArray, List.set_cons_zero, List.set_cons_succ, List.getElem_toArray, List.getElem_cons_zero, List.getElem_cons_succ])
  refine wpAnyH_take (i := 9) (v := ?_) rfl (by kernel_rfl) (by kernel_rfl) (by kernel_rfl) (fun _ _ _ h => hP _ _ _ _ _ h) (Or.inl ⟨by rfl, ?hy10⟩) (by assumption) ?rs10
  case hy10 => (intro w hSw; (try dsimp only at hSw); go_simp; try (with_reducible rfl))
  (try simp only [Act.put, List.setIfInBounds_toArray, List.set_cons_zero, List.set_cons_succ, List.getElem_toArray, List.getElem_cons_zero, List.getElem_cons_succ])
  refine wpAnyH_call (i := 10) rfl (by kernel_rfl) (by kernel_rfl) (by kernel_rfl) (fun _ _ _ h => hP _ _ _ _ _ h) (by rfl) ?he11 (fun w hSw => (hp2 w)) (by assumption) ?rs11
  case he11 => (intro w hSw; (try dsimp only at hSw); go_simp)
  (try simp only [Act.put, List.setIfInBounds_toArray, List.set_cons_zero, List.set_cons_succ, List.getElem_toArray, List.getElem_cons_zero, List.getElem_cons_succ])
  refine wpAnyH_take (i := 11) (v := ?_) rfl (by kernel_rfl) (by kernel_rfl) (by kernel_rfl) (fun _ _ _ h => hP _ _ _ _ _ h) (Or.inl ⟨by rfl, ?hy12⟩) (by assumption) ?rs12
  case hy12 => (intro w hSw; (try dsimp only at hSw); go_simp; try (with_reducible rfl))
  (try simp only [Act.put, List.setIfInBounds_toArray, List.set_cons_zero, List.set_cons_succ, List.getElem_toArray, List.getElem_cons_zero, List.getElem_cons_succ])
  refine wpAnyH_take (i := 12) (v := ?_) rfl (by kernel_rfl) (by kernel_rfl) (by kernel_rfl) (fun _ _ _ h => hP _ _ _ _ _ h) (Or.inl ⟨by rfl, ?hy13⟩) (by assumption) ?rs13
  case hy13 => (intro w hSw; (try dsimp only at hSw); go_simp; try (with_reducible rfl))
  (try simp only [Act.put, List.setIfInBounds_toArray, List.set_cons_zero, List.set_cons_succ, List.getElem_toArray, List.getElem_cons_zero, List.getElem_cons_succ])
  refine wpAnyH_take (i := 15) (v := ?_) rfl (by kernel_rfl) (by kernel_rfl) (by kernel_rfl) (fun _ _ _ h => hP _ _ _ _ _ h) (Or.inl ⟨by rfl, ?hy14⟩) (by assumption) ?rs14
  case hy14 => (intro w hSw; (try dsimp only at hSw); go_simp; try (with_reducible rfl))
  (try simp only [Act.put, List.setIfInBounds_toArray, List.set_cons_zero, List.set_cons_succ, List.getElem_toArray, List.getElem_cons_zero, List.getElem_cons_succ])
  clear haw haw2
  refine wpAnyH_ready (rs := [13]) (by kernel_rfl) (by simp) ?_
  refine AllReadyH.cons rfl (fun K hK => ?_) ?_
  · go_simp
    refine hK.out _ _ (by exact (HS.out _ (bdrew (balloc (Below.refl _ _) _)))) (fun hHeld => ?_)
    clear hK K
    (try simp only [Act.put, List.setIfInBounds_toArray, List.set_cons_zero, List.set_cons_succ, List.getElem_toArray, List.getElem_cons_zero, List.getElem_cons_succ])
    have g27 : Blk (w22.alloc (.cells #[.int .i64 m1, .int .i64 m2, .int .i64 u1, .int .i64 (1 + u2)] 39)).drew w22.heap.size 39 [.int .i64 m1, .int .i64 m2, .int .i64 u1, .int .i64 (1 + u2)] := (Blk.new w22 39 [.int .i64 m1, .int .i64 m2, .int .i64 u1, .int .i64 (1 + u2)]).drew
    have hb23 : Below w22.heap.size w22 (w22.alloc (.cells #[.int .i64 m1, .int .i64 m2, .int .i64 u1, .int .i64 (1 + u2)] 39)).drew := bdrew (balloc (Below.refl _ _) _)
    generalize (w22.alloc (.cells #[.int .i64 m1, .int .i64 m2, .int .i64 u1, .int .i64 (1 + u2)] 39)).drew = w23 at *
    refine wpAnyH_take (i := 14) (v := ?_) rfl (by kernel_rfl) (by kernel_rfl) (by kernel_rfl) (fun _ _ _ h => hP _ _ _ _ _ h) (Or.inl ⟨by rfl, ?hy15⟩) (by assumption) ?rs15
    case hy15 => (intro w hSw; (try dsimp only at hSw); go_simp; try (with_reducible rfl))
    (try simp only [Act.put, List.setIfInBounds_toArray, List.set_cons_zero, List.set_cons_succ, List.getElem_toArray, List.getElem_cons_zero, List.getElem_cons_succ])
    refine wpAnyH_done (by kernel_rfl) ?_ _
    have hl20 : w20.heap.size < w22.heap.size := (H22.out w22 (Below.refl _ _)).2.cells.2.2
    have hSt : St w14 w18.heap.size w20.heap.size w22.heap.size 39 [.int .i64 m1, .int .i64 m2, .int .i64 u1, .int .i64 (1 + u2)] w23 := ⟨bthen HB22.out hb23, ⟨_, _, (H22.out w23 hb23).1.blk⟩, ⟨_, _, (H22.out w23 hb23).2.blk⟩, g27⟩
    have HSt := hide hSt
    have hb12 : w18.heap.size < w20.heap.size := Nat.lt_of_lt_of_le hl19 hle21
    clear hSt g27 hb23 H22 HS HB22 HN1 HE1 HN2 h15 h15' h17 h17' h19 h19' h21 h21' HB15 HB16 HB17 HB19 HB21 H18 H19 H20 H21 hp1 hp2
    go_wp2_with fail
    rename_i C2 hC2 hS2
    refine lp2 w14 wL w18.heap.size w20.heap.size w22.heap.size b7 wo.heap.size rP rA rn rc l g5 o5 c5 es L m0 m1 m2 m3 u1 u2 tx _ w23 _ (by rfl) (by rfl) (by rfl) (by rfl) (by rfl) (by rfl) (by rfl) (by rfl) (by rfl) (by rfl) (by rfl) HMk.out hnc hcc HLn.out hc54 hc5' hle19 hb12 hl20 HQ.out HSt.out ?_
    intro a2 W2 h1 hst
    have HST := hide hst
    have HC2 := hide ((by exact ⟨rfl, rfl, fun i hi => by
        simp only [List.mem_cons, List.not_mem_nil, or_false] at hi
        rcases hi with rfl | rfl | rfl | rfl | rfl | rfl | rfl <;> first | rfl | exact H3.out.symm | exact H7.out.symm | exact H12.out.symm | exact H13.out.symm⟩ : Kp [4, 11, 13, 3, 7, 12, 13] (frm u) _).trans (h1.sub (K' := [4, 11, 13, 3, 7, 12, 13]) (by rfl)))
    refine hC2 _ _ ?_
    obtain ⟨fr2, rfl⟩ : ∃ v, a2 = frm v := ⟨sl a2, act_frm h1.1 h1.2.1⟩
    have e3 : fr2 3 = .string tx := (sl_frm fr2 3 (by decide)).symm.trans ((h1.2.2 3 (by decide)).trans rfl)
    have e7 : fr2 7 = .pointer (some ⟨b7, 0, none⟩) := (sl_frm fr2 7 (by decide)).symm.trans ((h1.2.2 7 (by decide)).trans rfl)
    have e12 : fr2 12 = .slice (some ⟨g5, o5, none⟩) 4 c5 := (sl_frm fr2 12 (by decide)).symm.trans ((h1.2.2 12 (by decide)).trans rfl)
    have e13 : fr2 13 = .int .i64 k := (sl_frm fr2 13 (by decide)).symm.trans ((h1.2.2 13 (by decide)).trans rfl)
    have e14 : fr2 14 = .pointer (some ⟨wo.heap.size, 0, none⟩) := (sl_frm fr2 14 (by decide)).symm.trans ((h1.2.2 14 (by decide)).trans rfl)
    have e19 : fr2 19 = .pointer (some ⟨w18.heap.size, 0, none⟩) := (sl_frm fr2 19 (by decide)).symm.trans ((h1.2.2 19 (by decide)).trans rfl)
    have e21 : fr2 21 = .pointer (some ⟨w20.heap.size, 0, none⟩) := (sl_frm fr2 21 (by decide)).symm.trans ((h1.2.2 21 (by decide)).trans rfl)
    have HE2_3 := hide e3
    have HE2_7 := hide e7
    have HE2_12 := hide e12
    have HE2_13 := hide e13
    have HE2_14 := hide e14
    have HE2_19 := hide e19
    have HE2_21 := hide e21
    clear h1 hst hC2
    unfold frm
    rw [e3, e7, e12, e13, e14, e19, e21]
    clear e3 e7 e12 e13 e14 e19 e21
    go_wp2_with fail
    rename_i C4 hC4
    refine lp4 w14 wL w18.heap.size w20.heap.size w22.heap.size b7 wo.heap.size rP rA rn rc l g5 o5 c5 es L m0 m1 m2 m3 u1 u2 tx _ W2 _ (by rfl) (by rfl) (by rfl) (by rfl) (by rfl) (by rfl) (by rfl) (by rfl) (by rfl) HMk.out hnc hcc HLn.out hc54 hc5' hle19 hb12 hl20 HQ.out HST.out ?_
    intro a4 W4 h1 hst
    have HST := hide hst
    have HC4 := hide ((HC2.out.trans (by exact ⟨rfl, rfl, fun i hi => by
        simp only [List.mem_cons, List.not_mem_nil, or_false] at hi
        rcases hi with rfl | rfl | rfl | rfl | rfl | rfl | rfl <;> first | rfl | exact HE2_3.out.symm | exact HE2_7.out.symm | exact HE2_12.out.symm | exact HE2_13.out.symm | exact HE2_14.out.symm | exact HE2_19.out.symm | exact HE2_21.out.symm⟩ : Kp [4, 11, 13, 3, 7, 12, 13] (frm fr2) _)).trans (h1.sub (K' := [4, 11, 13, 3, 7, 12, 13]) (by rfl)))
    refine hC4 _ _ ?_
    obtain ⟨fr4, rfl⟩ : ∃ v, a4 = frm v := ⟨sl a4, act_frm h1.1 h1.2.1⟩
    have e3 : fr4 3 = .string tx := (sl_frm fr4 3 (by decide)).symm.trans ((h1.2.2 3 (by decide)).trans rfl)
    have e7 : fr4 7 = .pointer (some ⟨b7, 0, none⟩) := (sl_frm fr4 7 (by decide)).symm.trans ((h1.2.2 7 (by decide)).trans rfl)
    have e12 : fr4 12 = .slice (some ⟨g5, o5, none⟩) 4 c5 := (sl_frm fr4 12 (by decide)).symm.trans ((h1.2.2 12 (by decide)).trans rfl)
    have e13 : fr4 13 = .int .i64 k := (sl_frm fr4 13 (by decide)).symm.trans ((h1.2.2 13 (by decide)).trans rfl)
    have e14 : fr4 14 = .pointer (some ⟨wo.heap.size, 0, none⟩) := (sl_frm fr4 14 (by decide)).symm.trans ((h1.2.2 14 (by decide)).trans rfl)
    have e19 : fr4 19 = .pointer (some ⟨w18.heap.size, 0, none⟩) := (sl_frm fr4 19 (by decide)).symm.trans ((h1.2.2 19 (by decide)).trans rfl)
    have e21 : fr4 21 = .pointer (some ⟨w20.heap.size, 0, none⟩) := (sl_frm fr4 21 (by decide)).symm.trans ((h1.2.2 21 (by decide)).trans rfl)
    have HE4_3 := hide e3
    have HE4_7 := hide e7
    have HE4_12 := hide e12
    have HE4_13 := hide e13
    have HE4_14 := hide e14
    have HE4_19 := hide e19
    have HE4_21 := hide e21
    clear h1 hst hC4
    unfold frm
    rw [e3, e7, e12, e13, e14, e19, e21]
    clear e3 e7 e12 e13 e14 e19 e21
    go_wp2_with fail
    rename_i C6 hC6
    refine lp6 w14 wL w18.heap.size w20.heap.size w22.heap.size b7 wo.heap.size rP rA rn rc l g5 o5 c5 es L m0 m1 m2 m3 u1 u2 tx _ W4 _ (by rfl) (by rfl) (by rfl) (by rfl) (by rfl) (by rfl) (by rfl) (by rfl) (by rfl) HMk.out hnc hcc HLn.out hc54 hc5' hle19 hb12 hl20 HQ.out HST.out ?_
    intro a6 W6 h1 hst
    have HST := hide hst
    have HC6 := hide ((HC4.out.trans (by exact ⟨rfl, rfl, fun i hi => by
        simp only [List.mem_cons, List.not_mem_nil, or_false] at hi
        rcases hi with rfl | rfl | rfl | rfl | rfl | rfl | rfl <;> first | rfl | exact HE4_3.out.symm | exact HE4_7.out.symm | exact HE4_12.out.symm | exact HE4_13.out.symm | exact HE4_14.out.symm | exact HE4_19.out.symm | exact HE4_21.out.symm⟩ : Kp [4, 11, 13, 3, 7, 12, 13] (frm fr4) _)).trans (h1.sub (K' := [4, 11, 13, 3, 7, 12, 13]) (by rfl)))
    refine hC6 _ _ ?_
    obtain ⟨fr6, rfl⟩ : ∃ v, a6 = frm v := ⟨sl a6, act_frm h1.1 h1.2.1⟩
    have e3 : fr6 3 = .string tx := (sl_frm fr6 3 (by decide)).symm.trans ((h1.2.2 3 (by decide)).trans rfl)
    have e7 : fr6 7 = .pointer (some ⟨b7, 0, none⟩) := (sl_frm fr6 7 (by decide)).symm.trans ((h1.2.2 7 (by decide)).trans rfl)
    have e12 : fr6 12 = .slice (some ⟨g5, o5, none⟩) 4 c5 := (sl_frm fr6 12 (by decide)).symm.trans ((h1.2.2 12 (by decide)).trans rfl)
    have e13 : fr6 13 = .int .i64 k := (sl_frm fr6 13 (by decide)).symm.trans ((h1.2.2 13 (by decide)).trans rfl)
    have e14 : fr6 14 = .pointer (some ⟨wo.heap.size, 0, none⟩) := (sl_frm fr6 14 (by decide)).symm.trans ((h1.2.2 14 (by decide)).trans rfl)
    have e19 : fr6 19 = .pointer (some ⟨w18.heap.size, 0, none⟩) := (sl_frm fr6 19 (by decide)).symm.trans ((h1.2.2 19 (by decide)).trans rfl)
    have e21 : fr6 21 = .pointer (some ⟨w20.heap.size, 0, none⟩) := (sl_frm fr6 21 (by decide)).symm.trans ((h1.2.2 21 (by decide)).trans rfl)
    have HE6_3 := hide e3
    have HE6_7 := hide e7
    have HE6_12 := hide e12
    have HE6_13 := hide e13
    have HE6_14 := hide e14
    have HE6_19 := hide e19
    have HE6_21 := hide e21
    clear h1 hst hC6
    unfold frm
    rw [e3, e7, e12, e13, e14, e19, e21]
    clear e3 e7 e12 e13 e14 e19 e21
    obtain ⟨KK, HK, HK0, HKx⟩ : ∃ KK : World → Prop, Hid (KW w14 w18.heap.size w20.heap.size KK) ∧ Hid (KK W6) ∧ Hid (∀ W, KK W → St w14 w18.heap.size w20.heap.size w22.heap.size 39 [.int .i64 m1, .int .i64 m2, .int .i64 u1, .int .i64 (1 + u2)] W) := ⟨_, hide (St.kw 39 [.int .i64 m1, .int .i64 m2, .int .i64 u1, .int .i64 (1 + u2)] hle19 hb12 hl20), hide HST.out, hide (fun W h => h)⟩
    clear HST
    obtain ⟨o8, ho8⟩ : ∃ o, newM m1 = o := ⟨_, rfl⟩
    obtain ⟨n8, hn8⟩ : ∃ n, (oL o8).length = n := ⟨_, rfl⟩
    obtain ⟨e8, he8⟩ : ∃ e, oE o8 = e := ⟨_, rfl⟩
    obtain ⟨p8, hp8⟩ : ∃ e, oP m1 o8 = e := ⟨_, rfl⟩
    have HN8 := hide (And.intro ho8 (And.intro hn8 (And.intro he8 hp8)))
    clear ho8 hn8 he8 hp8
    have HY : Hid (∀ W, KK W → W.cell? ⟨b7, 1, none⟩ = some (.int .i64 m1)) := hide (fun W h => (blk4 (HQ.out W (HK.out.bel h)).2.2.1).2.1)
    have y1 := HY.out W6 HK0.out
    go_upto_region 45 with (go_at_call 33; refine (c_pNew m1 W6 (HQ.out W6 (HK.out.bel HK0.out)).2.2.2.1).mono ?_; rintro e w8 hp; rw [HN8.out.1] at hp; obtain ⟨hb8, A3, c3, rfl, h31, h32, hsn⟩ := RepPost.un HN8.out.2 hp; clear hp y1; have h8 : KK w8 := HK.out.next HK0.out hb8; have H8 := hide (And.intro hsn (And.intro h31 (And.intro h32 h8))); obtain ⟨xx, yy, gB⟩ := HK.out.x1 h8; have HG8 := hide gB; obtain ⟨q0, q1, q2, q3⟩ := gB.all2; have q4 := gB.lt; clear gB hsn h8 hb8)
    have hB3 := hide (H8.out.1.put HG8.out H8.out.2.1 H8.out.2.2.1 (p := p8))
    have hK3 := hide (HK.out.s1 H8.out.2.2.2 (.int .i64 p8) (.slice A3 n8 c3))
    generalize (w8.setCell ⟨w18.heap.size, 0, none⟩ (.int .i64 p8)).setCell ⟨w18.heap.size, 1, none⟩ (.slice A3 n8 c3) = wB at *
    obtain ⟨K3, HK3, HK30⟩ : ∃ K3 : World → Prop, Hid (KW2 w14 w18.heap.size w20.heap.size p8 A3 n8 c3 (oL o8) KK K3) ∧ Hid (K3 wB) := ⟨_, hide (KW.two HK.out hb12 p8 A3 n8 c3 (oL o8)), hide ⟨hK3.out, hB3.out⟩⟩
    clear hB3 hK3 H8 HG8 HK0 q0 q1 q2 q3 q4
    have y1 := HY.out wB (HK3.out.k HK30.out)
    go_upto_region 46 with (go_at_call 34; refine (c_rNew m1 wB).mono ?_; rintro e w8 hp; rw [HN8.out.1] at hp; obtain ⟨hb8, A4, c4, rfl, h41, h42, hsn⟩ := RepPost.un HN8.out.2 hp; clear hp y1; have h8 : K3 w8 := HK3.out.next HK30.out hb8; have H8 := hide (And.intro hsn (And.intro h41 (And.intro h42 h8))); obtain ⟨xx, yy, gB⟩ := HK3.out.x2 h8; have HG8 := hide gB; obtain ⟨q0, q1, q2, q3⟩ := gB.all2; have q4 := gB.lt; clear gB hsn h8 hb8)
    have hB4 := hide (H8.out.1.put HG8.out H8.out.2.1 H8.out.2.2.1 (p := p8))
    have hK4 := hide (HK3.out.s2 H8.out.2.2.2 (.int .i64 p8) (.slice A4 n8 c4))
    generalize (w8.setCell ⟨w20.heap.size, 0, none⟩ (.int .i64 p8)).setCell ⟨w20.heap.size, 1, none⟩ (.slice A4 n8 c4) = wC at *
    clear H8 HG8 HK30 q0 q1 q2 q3 q4
    have hs1 : Calls Tryz.prog 20 #[.agg #[.int .i64 p8, .slice A3 n8 c3], .agg #[.int .i64 p8, .slice A4 n8 c4]] wC fun e w' => e = .returned (.bool true) ∧ Below wC.heap.size wC w' := by
      have g := HK3.out.bx hK4.out
      have g2 := hB4.out
      have := c_rSame p8 A3 n8 c3 (oL o8) p8 A4 n8 c4 (oL o8) wC (by have := g.hnc; have := g.hc; omega) (by have := g.hnc; have := g.hc; omega) g.slr g2.slr
      rw [decide_eq_true rfl, decide_eq_true rfl] at this
      exact this
    obtain ⟨x0, x1, x2⟩ := (HK3.out.bx hK4.out).cells
    obtain ⟨y0, y1, y2⟩ := hB4.out.cells
    go_wp2_with (go_at_call 20; refine hs1.mono ?_; clear hs1 x0 x1 x2 y0 y1 y2; rintro e w9 ⟨rfl, hb9⟩; have HB9 := hide hb9; clear hb9)
    refine HQ0.out _ _ (HC6.out.trans ?_) (HQ.out w9 (HK.out.bel (HK3.out.k (HK3.out.next hK4.out HB9.out)))).2.2.2.2
    exact ⟨rfl, rfl, fun i hi => by
        simp only [List.mem_cons, List.not_mem_nil, or_false] at hi
        rcases hi with rfl | rfl | rfl | rfl | rfl | rfl | rfl <;> first | rfl | exact HE6_3.out.symm | exact HE6_7.out.symm | exact HE6_12.out.symm | exact HE6_13.out.symm | exact HE6_14.out.symm | exact HE6_19.out.symm | exact HE6_21.out.symm⟩
  · exact AllReadyH.nil
set_option linter.unusedSimpArgs false in
set_option linter.unusedVariables false in
set_option maxRecDepth 100000 in
set_option maxHeartbeats 16000000 in
/-- the outer loop -/
theorem lp0 (w wL : World) (b7 g5 o5 c5 : Nat) (es : List En) (L : List (List Rc)) (m0 m1 m2 m3 : Int) (tx : ByteArray) (a : Act) (Q : Exit → Act → World → Prop) (hz : a.tmps.size = 359) (hd : a.defers = []) (h3 : sl a 3 = .string tx) (h7 : sl a 7 = .pointer (some ⟨b7, 0, none⟩)) (h12 : sl a 12 = .slice (some ⟨g5, o5, none⟩) 4 c5) (h13 : sl a 13 = .int .i64 (0 : Nat)) (hm : ok4 (m0, m1, m2, m3)) (hc54 : 4 ≤ c5) (hc5' : c5 ≤ 9223372036854775807)
    (hbs : ∀ W, Below wL.heap.size wL W → Fo W (some ⟨g5, o5, none⟩) c5 es L ∧ Blk W b7 26 [.int .i64 m0, .int .i64 m1, .int .i64 m2, .int .i64 m3] ∧ RL W ∧ Below w.heap.size w W)
    (hQ : ∀ (a' : Act) (W : World), Kp [4, 11, 3, 7, 12] a a' → Below wL.heap.size wL W → Q .normal a' W) (hP : ∀ c (a : Act) (d : Nat) v w, Q (.panic c) (a.put (some d) v) w → Q (.panic c) a w) : (blk 0).wp Tryz.prog Q a wL := by
  conv => arg 2; whnf
  rw [show Code.block 1 _ = blk 1 from rfl]
  have HMk := hide hm
  have HBs := hide hbs
  clear hm hbs
  refine wp_block (wp_loop_ghost_k (fun n a' W => ∃ k : Nat, k + n = 4 ∧ Kp [4, 11, 3, 7, 12] a a' ∧ sl a' 13 = .int .i64 k ∧ Below wL.heap.size wL W) 4 ⟨0, by omega, Kp.refl hz hd, h13, Below.refl _ _⟩ ?_)
  rintro n a1 W ⟨k, hk, hK, hs, hb⟩ J K hJ hKK
  obtain ⟨u, rfl⟩ : ∃ u, a1 = frm u := ⟨sl a1, act_frm hK.1 hK.2.1⟩
  have e3 := (sl_frm u 3 (by decide)).symm.trans ((hK.2.2 3 (by decide)).trans h3)
  have e7 := (sl_frm u 7 (by decide)).symm.trans ((hK.2.2 7 (by decide)).trans h7)
  have e12 := (sl_frm u 12 (by decide)).symm.trans ((hK.2.2 12 (by decide)).trans h12)
  have e13 := (sl_frm u 13 (by decide)).symm.trans hs
  have HK := hide hK
  have HJ := hide hJ
  have HQ0 := hide hQ
  have HB := hide hb
  have H3 := hide e3
  have H7 := hide e7
  have H12 := hide e12
  have H13 := hide e13
  clear hK hJ hQ hs hb h3 h7 h12 h13
  unfold frm
  rw [e3, e7, e12, e13]
  clear e3 e7 e12 e13
  by_cases hlt : k < 4
  · have hlt' : (k : Int) < 4 := by omega
    go_wp2_with fail
    rename_i K2 hK2
    refine rnd1 w wL W b7 g5 o5 c5 es L m0 m1 m2 m3 tx k _ _ (by rfl) (by rfl) (by rfl) (by rfl) (by rfl) (by rfl) hlt HMk.out hc54 hc5' HBs.out HB.out ?_ (fun c a d v w h => hP c a d v w h)
    intro a2 W2 hK' hb2
    have HB2 := hide hb2
    have h1 : Kp [4, 11, 3, 7, 12] a a2 := (HK.out.trans (by exact ⟨rfl, rfl, fun i hi => by
    simp only [List.mem_cons, List.not_mem_nil, or_false] at hi
    rcases hi with rfl | rfl | rfl | rfl | rfl <;> first | rfl | exact H3.out.symm | exact H7.out.symm | exact H12.out.symm⟩ : Kp [4, 11, 3, 7, 12] (frm u) _)).trans (hK'.sub (by rfl))
    have hs' : sl a2 13 = .int .i64 k := (hK'.2.2 13 (by decide)).trans rfl
    clear hK' hb2
    refine hK2 _ _ ?_
    obtain ⟨u2, rfl⟩ : ∃ u2, a2 = frm u2 := ⟨sl a2, act_frm h1.1 h1.2.1⟩
    have e := (sl_frm u2 13 (by decide)).symm.trans hs'
    have HE2 := hide e
    have H1 := hide h1
    clear hs' h1 hK2
    unfold frm
    rw [e]
    clear e
    go_wp2_with fail
    refine Handed.intro (n - 1) (by omega) (HJ.out _ _ _ ⟨k + 1, by omega, H1.out.trans ?_, ?_, HB2.out⟩)
    · exact ⟨rfl, rfl, fun i hi => by
    simp only [List.mem_cons, List.not_mem_nil, or_false] at hi
    rcases hi with rfl | rfl | rfl | rfl | rfl <;> first | rfl | exact HE2.out.symm⟩
    · first | rfl | (show Value.int .i64 _ = Value.int .i64 _; congr 1; omega)
  · obtain rfl : k = 4 := by omega
    go_wp2_with fail
    refine HQ0.out _ _ (HK.out.trans ?_) HB.out
    exact ⟨rfl, rfl, fun i hi => by
    simp only [List.mem_cons, List.not_mem_nil, or_false] at hi
    rcases hi with rfl | rfl | rfl | rfl | rfl <;> first | rfl | exact H3.out.symm | exact H7.out.symm | exact H12.out.symm⟩
end Go.Proofs.YtcfbgelhggapjaaGreatDoor
