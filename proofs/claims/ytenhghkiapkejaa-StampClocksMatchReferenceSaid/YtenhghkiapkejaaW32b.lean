/- The walk of StampClocksMatchReference: it returns true, whatever the input. -/
import Derived.Test.YtenhghkiapkejaaW32a
namespace Go.Proofs.Ytenhghkiapkejaa
open Go.RowKit
set_option linter.unusedSimpArgs false in
set_option maxRecDepth 100000 in
set_option maxHeartbeats 64000000 in
theorem f4 (h10 : H10) (A B : Option Addr) (x : List I2) (y : List I3) (c d : Nat) (odd : I3) (str : I4) (which : Int) (a b raw : I3) (person clock : Int) (w : World) (hn : x.length ≤ c) (hc : c ≤ 9223372036854775807) (hm : y.length ≤ d) (hd : d ≤ 9223372036854775807)
    (hw : ∀ s ∈ x, wf64 s.1 ∧ wf64 s.2) (hw2 : ∀ s ∈ y, wf64 s.1 ∧ wf64 s.2.1 ∧ wf64 s.2.2) (hwh : wf64 which) (ha : wf64 a.1 ∧ wf64 a.2.1 ∧ wf64 a.2.2) (hb : wf64 b.1 ∧ wf64 b.2.1 ∧ wf64 b.2.2) (hp : wf64 person) (hcl : wf64 clock)
    (hr : SlR w w.heap.size 2 A x.length (x.flatMap c2)) (hr2 : SlR w w.heap.size 3 B y.length (y.flatMap c3)) :
    Calls Try.prog 4 #[.slice A x.length c, .slice B y.length d, .agg #[.int .i64 odd.1, .int .i64 odd.2.1, .int .i64 odd.2.2], .agg #[.int .i64 str.1, .int .i64 str.2.1, .int .i64 str.2.2.1, .int .i64 str.2.2.2], .int .i64 which, .agg #[.int .i64 a.1, .int .i64 a.2.1, .int .i64 a.2.2], .agg #[.int .i64 b.1, .int .i64 b.2.1, .int .i64 b.2.2], .agg #[.int .i64 raw.1, .int .i64 raw.2.1, .int .i64 raw.2.2], .int .i64 person, .int .i64 clock] w fun e w' => e = .returned (.bool true) ∧ Below w.heap.size w w' := by
  obtain ⟨wh1, wh2⟩ := hwh
  obtain ⟨hp1, hp2⟩ := hp
  obtain ⟨hcl1, hcl2⟩ := hcl
  obtain ⟨i1, hi1, hz10, hz11, hz12⟩ := info_parts Try.info41'
  obtain ⟨i3, hi3, hz30, hz31, hz32⟩ := info_parts Try.info43
  obtain ⟨i4, hi4, hz40, hz41, hz42⟩ := info_parts Try.info24
  obtain ⟨w0, hw0e⟩ : ∃ w0, w0 = ((((w.alloc (.cells (c3 odd).toArray 41)).alloc (.cells (c4 str).toArray 43)).alloc (.cells (c3 a).toArray 31)).alloc (.cells (c3 b).toArray 31)).alloc (.cells (c3 raw).toArray 24) := ⟨_, rfl⟩
  have g1 := ((((Blk.new w 41 (c3 odd)).alloc (.cells (c4 str).toArray 43)).alloc (.cells (c3 a).toArray 31)).alloc (.cells (c3 b).toArray 31)).alloc (.cells (c3 raw).toArray 24)
  have g2 := (((Blk.new (w.alloc (.cells (c3 odd).toArray 41)) 43 (c4 str)).alloc (.cells (c3 a).toArray 31)).alloc (.cells (c3 b).toArray 31)).alloc (.cells (c3 raw).toArray 24)
  have g3 := ((Blk.new ((w.alloc (.cells (c3 odd).toArray 41)).alloc (.cells (c4 str).toArray 43)) 31 (c3 a)).alloc (.cells (c3 b).toArray 31)).alloc (.cells (c3 raw).toArray 24)
  have g4 := (Blk.new (((w.alloc (.cells (c3 odd).toArray 41)).alloc (.cells (c4 str).toArray 43)).alloc (.cells (c3 a).toArray 31)) 31 (c3 b)).alloc (.cells (c3 raw).toArray 24)
  have g5 := Blk.new ((((w.alloc (.cells (c3 odd).toArray 41)).alloc (.cells (c4 str).toArray 43)).alloc (.cells (c3 a).toArray 31)).alloc (.cells (c3 b).toArray 31)) 24 (c3 raw)
  have hb0 := balloc (balloc (balloc (balloc (balloc (Below.refl w.heap.size w) (.cells (c3 odd).toArray 41)) (.cells (c4 str).toArray 43)) (.cells (c3 a).toArray 31)) (.cells (c3 b).toArray 31)) (.cells (c3 raw).toArray 24)
  rw [← hw0e] at g1 g2 g3 g4 g5 hb0
  have z2 : (w.alloc (.cells (c3 odd).toArray 41)).heap.size = w.heap.size + 1 := by simp
  have z3 : ((w.alloc (.cells (c3 odd).toArray 41)).alloc (.cells (c4 str).toArray 43)).heap.size = w.heap.size + 1 + 1 := by simp
  have z4 : (((w.alloc (.cells (c3 odd).toArray 41)).alloc (.cells (c4 str).toArray 43)).alloc (.cells (c3 a).toArray 31)).heap.size = w.heap.size + 1 + 1 + 1 := by simp
  have z5 : ((((w.alloc (.cells (c3 odd).toArray 41)).alloc (.cells (c4 str).toArray 43)).alloc (.cells (c3 a).toArray 31)).alloc (.cells (c3 b).toArray 31)).heap.size = w.heap.size + 1 + 1 + 1 + 1 := by simp
  rw [z2] at g2
  rw [z3] at g3
  rw [z4] at g4
  rw [z5] at g5
  clear z2 z3 z4 z5
  have HW0 := hide hw0e
  clear hw0e
  go_enter Try.func4, Try.ntmps4
  go_wp2_with fail
  have hcall := h10 w0
  rw [HW0.out] at hcall
  refine hcall.mono ?_
  clear hcall
  rintro e w1 ⟨rfl, hb1⟩
  rw [← HW0.out] at hb1
  have g1 := g1.below hb1 g1.lt
  have g2 := g2.below hb1 g2.lt
  have g3 := g3.below hb1 g3.lt
  have g4 := g4.below hb1 g4.lt
  have g5 := g5.below hb1 g5.lt
  have hb1 := bthen hb0 hb1
  go_wp2_with fail
  refine (f22 A x c _ hn hc hw (hr.to hb1)).mono ?_
  rintro e w2 ⟨v, rfl, hown, hb2⟩
  obtain ⟨A', cv, rfl, hcv1, hcv2, hL⟩ := SlR.of_own hown
  have g1 := g1.below hb2 g1.lt
  have g2 := g2.below hb2 g2.lt
  have g3 := g3.below hb2 g3.lt
  have g4 := g4.below hb2 g4.lt
  have g5 := g5.below hb2 g5.lt
  have hb12 := bthen hb1 hb2
  have hsk := clocks_sk x
  have hle := clocks_le x
  have hr3 := (hr2.to hb12)
  clear hown hr hw hb1 hb2 hn hr2 hb0
  generalize clocks x = L at *
  go_wp2_with fail
  refine (f23 A' B L y cv d _ hcv1 (by simpa [maxLen] using hcv2) hm hd hle hw2 hL hr3).mono ?_
  rintro e w3 ⟨v, rfl, hown, hb3⟩
  obtain ⟨B', dv, rfl, hdv1, hdv2, hM⟩ := SlR.of_own hown
  have g1 := g1.below hb3 g1.lt
  have g2 := g2.below hb3 g2.lt
  have g3 := g3.below hb3 g3.lt
  have g4 := g4.below hb3 g4.lt
  have g5 := g5.below hb3 g5.lt
  have hb13 := bthen hb12 hb3
  have hL3 := hL.to hb3
  have hl8 := meets_len8 L y
  clear hown hr3 hw2 hb3 hL hm hb12
  generalize meets L y = l at *
  have hcv3 : cv ≤ 9223372036854775807 := by simpa [maxLen] using hcv2
  have hdv3 : dv ≤ 9223372036854775807 := by simpa [maxLen] using hdv2
  clear HW0
  have GG := hide (And.intro g1 (And.intro g2 (And.intro g3 (And.intro g4 g5))))
  clear g1 g2 g3 g4 g5
  go_upto_if 58 with (at_builtin; refine wpList_append_sl (w0 := w3) (B := w3.heap.size) (size := 3) rfl _ _ 44 rfl w3.heap.size 41 i1 (.agg #[.int .i64 0, .int .i64 0, .int .i64 0]) 24 Try.underlying44 hi1 hz10 hz11 hz12 rfl (by decide) _ 0 [] rfl (own_emp (Below.refl _ _)) L.length cv (L.flatMap c3) rfl hL3 (balloc (Below.refl _ _) _) (fun u hu => one3 _ u hu) (by unfold maxLen; omega) (by omega) (Below.size (balloc (Below.refl _ _) _)) ?_; intro v4 w4 hown4 hgrow4 hor4; rw [Nat.zero_add, List.nil_append] at hown4; have hown4c := hown4; obtain ⟨A4, c4', rfl, hc41, hc42, hS4⟩ := SlR.of_own hown4c)
  have hb34 : Below w3.heap.size w3 w4 := bgrown (balloc (Below.refl _ _) _) hgrow4 (fun j e => by cases e; exact Nat.le_refl _)
  go_cut [] (fun wx => ∃ L2 : List I3, L2.length = L.length ∧ SlR wx wx.heap.size 3 A4 L.length (L2.flatMap c3) ∧ Below w3.heap.size w3 wx)
  case first =>
    rcases Nat.eq_zero_or_pos L.length with h0 | h0
    · have q0 : decide ((0 : Int) < (L.length : Int)) = false := decide_eq_false (by omega)
      have q1 : decide (0 < L.length) = false := decide_eq_false (by omega)
      have q2 : ¬ (0 < L.length) := by omega
      have q3 : ¬ ((0 : Int) < (L.length : Int)) := by omega
      clear h0
      go_wp2_with fail
      go_meet
      exact ⟨L, rfl, hS4, hb34⟩
    · have q0 : decide ((0 : Int) < (L.length : Int)) = true := decide_eq_true (by omega)
      have q1 : decide (0 < L.length) = true := decide_eq_true (by omega)
      have q3 : (0 : Int) < (L.length : Int) := by omega
      have hpk := pk_range which L.length (by omega)
      obtain ⟨hpk1, hpk2⟩ := hpk
      obtain ⟨q, hqe⟩ : ∃ q : Nat, pk which (L.length : Int) = q := ⟨(pk which (L.length : Int)).toNat, by omega⟩
      have hqL : q < L.length := by omega
      obtain ⟨g, cap, cur, hv, hgc1, hgc2, hgb, hblk, htk⟩ := own_blk' hown4 h0
      simp only [Value.slice.injEq] at hv
      obtain ⟨rfl, _, rfl⟩ := hv
      obtain ⟨o1, _, _, _, _⟩ := GG.out
      have o1 := o1.below hb34 o1.lt
      obtain ⟨x0, x1, x2, _⟩ := o1.all3
      have hcl : (L.flatMap c3).length = L.length * 3 := flat_len c3 3 (fun _ => rfl) L
      have hcur : L.length * 3 ≤ cur.length := by have := congrArg List.length htk; rw [List.length_take, hcl] at this; omega
      have hw43 : w.heap.size < w3.heap.size := by have := GG.out.1.lt; exact this
      have hcell : ∀ r, r < 3 → ∃ u, w4.cell? ⟨g, q * 3 + r, none⟩ = some u := fun r hr => by
        rw [hblk.cell, List.getElem?_eq_getElem (by omega)]
        exact ⟨_, rfl⟩
      obtain ⟨u0, y0⟩ := hcell 0 (by omega)
      obtain ⟨u1, y1⟩ := hcell 1 (by omega)
      obtain ⟨u2, y2⟩ := hcell 2 (by omega)
      rw [Nat.add_zero] at y0
      have f0 := hblk.free (q * 3)
      have f1 := hblk.free (q * 3 + 1)
      have f2 := hblk.free (q * 3 + 2)
      have hgl := hblk.lt
      have HB := hide (And.intro hblk (And.intro htk hqe))
      have hqi : (q : Int) < (L.length : Int) := by omega
      have hq0 : (0 : Int) ≤ (q : Int) := by omega
      have hne : w.heap.size ≠ g := by omega
      clear hcell hblk htk hpk1 hpk2 hS4 hown4 hcur
      have hcall := f15 which L.length
      go_wp2_with fail
      refine wp_region_held_drew (S := fun W => W.cell? ⟨w.heap.size, 0, none⟩ = some (.int .i64 odd.1) ∧ W.cell? ⟨w.heap.size, 1, none⟩ = some (.int .i64 odd.2.1) ∧ W.cell? ⟨w.heap.size, 2, none⟩ = some (.int .i64 odd.2.2)) (by kernel_rfl) ⟨x0, x1, x2⟩ (fun hHeld => ?_)
      refine wpAnyH_take (i := 0) (v := ?_) rfl (by kernel_rfl) (by kernel_rfl) (by kernel_rfl) (fun _ _ _ h => h) (Or.inl ⟨by rfl, ?hy1⟩) (by assumption) ?rs1
      case hy1 => (intro w hSw; (try dsimp only at hSw); go_simp; try (with_reducible rfl))
      (try simp only [Act.put, List.setIfInBounds_toArray, List.set_cons_zero, List.set_cons_succ, List.getElem_toArray, List.getElem_cons_zero, List.getElem_cons_succ])
      refine wpAnyH_take (i := 1) (v := ?_) rfl (by kernel_rfl) (by kernel_rfl) (by kernel_rfl) (fun _ _ _ h => h) (Or.inl ⟨by rfl, ?hy2⟩) (by assumption) ?rs2
      case hy2 => (intro w hSw; (try dsimp only at hSw); go_simp; try (with_reducible rfl))
      (try simp only [Act.put, List.setIfInBounds_toArray, List.set_cons_zero, List.set_cons_succ, List.getElem_toArray, List.getElem_cons_zero, List.getElem_cons_succ])
      refine wpAnyH_take (i := 2) (v := ?_) rfl (by kernel_rfl) (by kernel_rfl) (by kernel_rfl) (fun _ _ _ h => h) (Or.inl ⟨by rfl, ?hy3⟩) (by assumption) ?rs3
      case hy3 => (intro w hSw; (try dsimp only at hSw); go_simp; try (with_reducible rfl))
      (try simp only [Act.put, List.setIfInBounds_toArray, List.set_cons_zero, List.set_cons_succ, List.getElem_toArray, List.getElem_cons_zero, List.getElem_cons_succ])
      refine wpAnyH_take (i := 3) (v := ?_) rfl (by kernel_rfl) (by kernel_rfl) (by kernel_rfl) (fun _ _ _ h => h) (Or.inl ⟨by rfl, ?hy4⟩) (by assumption) ?rs4
      case hy4 => (intro w hSw; (try dsimp only at hSw); go_simp; try (with_reducible rfl))
      (try simp only [Act.put, List.setIfInBounds_toArray, List.set_cons_zero, List.set_cons_succ, List.getElem_toArray, List.getElem_cons_zero, List.getElem_cons_succ])
      refine wpAnyH_call (i := 4) rfl (by kernel_rfl) (by kernel_rfl) (by kernel_rfl) (fun _ _ _ h => h) (by rfl) ?he5 (fun w hSw => (f15v HB.out.2.2 _ (by omega) (by omega) (by omega) (by omega))) (by assumption) ?rs5
      case he5 => (intro w hSw; (try dsimp only at hSw); go_simp)
      (try simp only [Act.put, List.setIfInBounds_toArray, List.set_cons_zero, List.set_cons_succ, List.getElem_toArray, List.getElem_cons_zero, List.getElem_cons_succ])
      refine wpAnyH_take (i := 5) (v := ?_) rfl (by kernel_rfl) (by kernel_rfl) (by kernel_rfl) (fun _ _ _ h => h) (Or.inl ⟨by rfl, ?hy6⟩) (by assumption) ?rs6
      case hy6 => (intro w hSw; (try dsimp only at hSw); go_simp; try (with_reducible rfl))
      (try simp only [Act.put, List.setIfInBounds_toArray, List.set_cons_zero, List.set_cons_succ, List.getElem_toArray, List.getElem_cons_zero, List.getElem_cons_succ])
      refine wpAnyH_take (i := 6) (v := ?_) rfl (by kernel_rfl) (by kernel_rfl) (by kernel_rfl) (fun _ _ _ h => h) (Or.inl ⟨by rfl, ?hy7⟩) (by assumption) ?rs7
      case hy7 => (intro w hSw; (try dsimp only at hSw); go_simp; try (with_reducible rfl))
      (try simp only [Act.put, List.setIfInBounds_toArray, List.set_cons_zero, List.set_cons_succ, List.getElem_toArray, List.getElem_cons_zero, List.getElem_cons_succ])
      refine wpAnyH_ready (rs := [7]) (by kernel_rfl) (by simp) ?_
      refine AllReadyH.cons rfl (fun K hK => ?_) ?_
      · go_simp
        refine hK.out _ _ (by exact (three_keep o1 hne)) (fun hHeld => ?_)
        clear hK K
        (try simp only [Act.put, List.setIfInBounds_toArray, List.set_cons_zero, List.set_cons_succ, List.getElem_toArray, List.getElem_cons_zero, List.getElem_cons_succ])
        refine wpAnyH_done (by kernel_rfl) ?_ _
        go_wp2_with fail
        go_meet
        obtain ⟨hblk, htk, _⟩ := HB.out
        have hblk2 := (((hblk.set (q * 3) (.int .i64 odd.1)).set (q * 3 + 1) (.int .i64 odd.2.1)).set (q * 3 + 2) (.int .i64 odd.2.2)).drew
        have htk2 : (((cur.set (q * 3) (.int .i64 odd.1)).set (q * 3 + 1) (.int .i64 odd.2.1)).set (q * 3 + 2) (.int .i64 odd.2.2)).take (L.length * 3) = (L.set q odd).flatMap c3 := by
          rw [List.take_set, List.take_set, List.take_set, htk, flat_set3 L q odd hqL]
        exact ⟨L.set q odd, by simp, blk_slr hblk2 (by rw [flat_len c3 3 (fun _ => rfl)]; simp) htk2, bdrew (bset (bset (bset hb34 hgb _) hgb _) hgb _)⟩
      exact AllReadyH.nil
  case rest =>
    obtain ⟨w5, rfl⟩ : ∃ W : World, W = wc := ⟨_, rfl⟩
    obtain ⟨L2, hL2, hS5, hb35⟩ := hcut
    clear hb34 hS4 hown4 hgrow4 hor4
    have hM5 := hM.to hb35
    go_upto_if 71 with (at_builtin; refine wpList_append_sl (w0 := w5) (B := w5.heap.size) (size := 4) rfl _ _ 46 rfl w5.heap.size 43 i3 (.agg #[.int .i64 0, .int .i64 0, .int .i64 0, .int .i64 0]) 32 Try.underlying46 hi3 hz30 hz31 hz32 rfl (by decide) _ 0 [] rfl (own_emp (Below.refl _ _)) l.length dv (l.flatMap c4) rfl hM5 (balloc (Below.refl _ _) _) (fun u hu => one4 _ u hu) (by unfold maxLen; omega) (by omega) (Below.size (balloc (Below.refl _ _) _)) ?_; intro v6 w6 hown6 hgrow6 hor6; rw [Nat.zero_add, List.nil_append] at hown6; have hown6c := hown6; obtain ⟨A6, c6', rfl, hc61, hc62, hS6⟩ := SlR.of_own hown6c)
    have hb56 : Below w5.heap.size w5 w6 := bgrown (balloc (Below.refl _ _) _) hgrow6 (fun j e => by cases e; exact Nat.le_refl _)
    go_cut [] (fun wx => ∃ l2 : List I4, l2.length = l.length ∧ SlR wx wx.heap.size 4 A6 l.length (l2.flatMap c4) ∧ Below w5.heap.size w5 wx)
    case first =>
      rcases Nat.eq_zero_or_pos l.length with h0 | h0
      · have q2 : ¬ (0 < l.length) := by omega
        have q3 : ¬ ((0 : Int) < (l.length : Int)) := by omega
        clear h0
        go_wp2_with fail
        go_meet
        exact ⟨l, rfl, hS6, hb56⟩
      · have q3 : (0 : Int) < (l.length : Int) := by omega
        have q1 : decide (0 < l.length) = true := decide_eq_true (by omega)
        have hpk := pk_range which l.length (by omega)
        obtain ⟨hpk1, hpk2⟩ := hpk
        obtain ⟨q, hqe⟩ : ∃ q : Nat, pk which (l.length : Int) = q := ⟨(pk which (l.length : Int)).toNat, by omega⟩
        have hqL : q < l.length := by omega
        obtain ⟨g, cap, cur, hv, hgc1, hgc2, hgb, hblk, htk⟩ := own_blk' hown6 h0
        simp only [Value.slice.injEq] at hv
        obtain ⟨rfl, _, rfl⟩ := hv
        have o1 := GG.out.2.1
        have hw43 : w.heap.size + 1 < w3.heap.size := o1.lt
        have o1 := (o1.below hb35 o1.lt)
        have hw45 : w.heap.size + 1 < w5.heap.size := o1.lt
        have o1 := o1.below hb56 o1.lt
        obtain ⟨x0, x1, x2, x3⟩ := o1.all4
        have hcl : (l.flatMap c4).length = l.length * 4 := flat_len c4 4 (fun _ => rfl) l
        have hcur : l.length * 4 ≤ cur.length := by have := congrArg List.length htk; rw [List.length_take, hcl] at this; omega
        have hcell : ∀ r, r < 4 → ∃ u, w6.cell? ⟨g, q * 4 + r, none⟩ = some u := fun r hr => by
          rw [hblk.cell, List.getElem?_eq_getElem (by omega)]
          exact ⟨_, rfl⟩
        obtain ⟨u0, y0⟩ := hcell 0 (by omega)
        obtain ⟨u1, y1⟩ := hcell 1 (by omega)
        obtain ⟨u2, y2⟩ := hcell 2 (by omega)
        obtain ⟨u3, y3⟩ := hcell 3 (by omega)
        rw [Nat.add_zero] at y0
        have f0 := hblk.free (q * 4)
        have f1 := hblk.free (q * 4 + 1)
        have f2 := hblk.free (q * 4 + 2)
        have f3 := hblk.free (q * 4 + 3)
        have hgl := hblk.lt
        have HB := hide (And.intro hblk (And.intro htk hqe))
        have hqi : (q : Int) < (l.length : Int) := by omega
        have hq0 : (0 : Int) ≤ (q : Int) := by omega
        have hne : w.heap.size + 1 ≠ g := by omega
        clear hcell hblk htk hpk1 hpk2 hS6 hown6 hcur
        go_wp2_with fail
        refine wp_region_held_drew (S := fun W => W.cell? ⟨w.heap.size + 1, 0, none⟩ = some (.int .i64 str.1) ∧ W.cell? ⟨w.heap.size + 1, 1, none⟩ = some (.int .i64 str.2.1) ∧ W.cell? ⟨w.heap.size + 1, 2, none⟩ = some (.int .i64 str.2.2.1) ∧ W.cell? ⟨w.heap.size + 1, 3, none⟩ = some (.int .i64 str.2.2.2)) (by kernel_rfl) ⟨x0, x1, x2, x3⟩ (fun hHeld => ?_)
        refine wpAnyH_take (i := 0) (v := ?_) rfl (by kernel_rfl) (by kernel_rfl) (by kernel_rfl) (fun _ _ _ h => h) (Or.inl ⟨by rfl, ?hy8⟩) (by assumption) ?rs8
        case hy8 => (intro w hSw; (try dsimp only at hSw); go_simp; try (with_reducible rfl))
        (try simp only [Act.put, List.setIfInBounds_toArray, List.set_cons_zero, List.set_cons_succ, List.getElem_toArray, List.getElem_cons_zero, List.getElem_cons_succ])
        refine wpAnyH_take (i := 1) (v := ?_) rfl (by kernel_rfl) (by kernel_rfl) (by kernel_rfl) (fun _ _ _ h => h) (Or.inl ⟨by rfl, ?hy9⟩) (by assumption) ?rs9
        case hy9 => (intro w hSw; (try dsimp only at hSw); go_simp; try (with_reducible rfl))
        (try simp only [Act.put, List.setIfInBounds_toArray, List.set_cons_zero, List.set_cons_succ, List.getElem_toArray, List.getElem_cons_zero, List.getElem_cons_succ])
        refine wpAnyH_take (i := 2) (v := ?_) rfl (by kernel_rfl) (by kernel_rfl) (by kernel_rfl) (fun _ _ _ h => h) (Or.inl ⟨by rfl, ?hy10⟩) (by assumption) ?rs10
        case hy10 => (intro w hSw; (try dsimp only at hSw); go_simp; try (with_reducible rfl))
        (try simp only [Act.put, List.setIfInBounds_toArray, List.set_cons_zero, List.set_cons_succ, List.getElem_toArray, List.getElem_cons_zero, List.getElem_cons_succ])
        refine wpAnyH_take (i := 3) (v := ?_) rfl (by kernel_rfl) (by kernel_rfl) (by kernel_rfl) (fun _ _ _ h => h) (Or.inl ⟨by rfl, ?hy11⟩) (by assumption) ?rs11
        case hy11 => (intro w hSw; (try dsimp only at hSw); go_simp; try (with_reducible rfl))
        (try simp only [Act.put, List.setIfInBounds_toArray, List.set_cons_zero, List.set_cons_succ, List.getElem_toArray, List.getElem_cons_zero, List.getElem_cons_succ])
        refine wpAnyH_call (i := 4) rfl (by kernel_rfl) (by kernel_rfl) (by kernel_rfl) (fun _ _ _ h => h) (by rfl) ?he12 (fun w hSw => (f15v HB.out.2.2 _ (by omega) (by omega) (by omega) (by omega))) (by assumption) ?rs12
        case he12 => (intro w hSw; (try dsimp only at hSw); go_simp)
        (try simp only [Act.put, List.setIfInBounds_toArray, List.set_cons_zero, List.set_cons_succ, List.getElem_toArray, List.getElem_cons_zero, List.getElem_cons_succ])
        refine wpAnyH_take (i := 5) (v := ?_) rfl (by kernel_rfl) (by kernel_rfl) (by kernel_rfl) (fun _ _ _ h => h) (Or.inl ⟨by rfl, ?hy13⟩) (by assumption) ?rs13
        case hy13 => (intro w hSw; (try dsimp only at hSw); go_simp; try (with_reducible rfl))
        (try simp only [Act.put, List.setIfInBounds_toArray, List.set_cons_zero, List.set_cons_succ, List.getElem_toArray, List.getElem_cons_zero, List.getElem_cons_succ])
        refine wpAnyH_take (i := 6) (v := ?_) rfl (by kernel_rfl) (by kernel_rfl) (by kernel_rfl) (fun _ _ _ h => h) (Or.inl ⟨by rfl, ?hy14⟩) (by assumption) ?rs14
        case hy14 => (intro w hSw; (try dsimp only at hSw); go_simp; try (with_reducible rfl))
        (try simp only [Act.put, List.setIfInBounds_toArray, List.set_cons_zero, List.set_cons_succ, List.getElem_toArray, List.getElem_cons_zero, List.getElem_cons_succ])
        refine wpAnyH_ready (rs := [7]) (by kernel_rfl) (by simp) ?_
        refine AllReadyH.cons rfl (fun K hK => ?_) ?_
        · go_simp
          refine hK.out _ _ (by exact (four_keep o1 hne)) (fun hHeld => ?_)
          clear hK K
          (try simp only [Act.put, List.setIfInBounds_toArray, List.set_cons_zero, List.set_cons_succ, List.getElem_toArray, List.getElem_cons_zero, List.getElem_cons_succ])
          refine wpAnyH_done (by kernel_rfl) ?_ _
          go_wp2_with fail
          go_meet
          obtain ⟨hblk, htk, _⟩ := HB.out
          have hblk2 := ((((hblk.set (q * 4) (.int .i64 str.1)).set (q * 4 + 1) (.int .i64 str.2.1)).set (q * 4 + 2) (.int .i64 str.2.2.1)).set (q * 4 + 3) (.int .i64 str.2.2.2)).drew
          have htk2 : ((((cur.set (q * 4) (.int .i64 str.1)).set (q * 4 + 1) (.int .i64 str.2.1)).set (q * 4 + 2) (.int .i64 str.2.2.1)).set (q * 4 + 3) (.int .i64 str.2.2.2)).take (l.length * 4) = (l.set q str).flatMap c4 := by
            rw [List.take_set, List.take_set, List.take_set, List.take_set, htk, flat_set4 l q str hqL]
          exact ⟨l.set q str, by simp, blk_slr hblk2 (by rw [flat_len c4 4 (fun _ => rfl)]; simp) htk2, bdrew (bset (bset (bset (bset hb56 hgb _) hgb _) hgb _) hgb _)⟩
        exact AllReadyH.nil
    case rest =>
      obtain ⟨w7, rfl⟩ : ∃ W : World, W = wc := ⟨_, rfl⟩
      obtain ⟨l2, hl2, hS7, hb57⟩ := hcut
      clear hb56 hS6 hown6 hgrow6 hor6
      have hb37 := bthen hb35 hb57
      have q3 := GG.out.2.2.1.below hb37 GG.out.2.2.1.lt
      have q4 := GG.out.2.2.2.1.below hb37 GG.out.2.2.2.1.lt
      have q5 := GG.out.2.2.2.2.below hb37 GG.out.2.2.2.2.lt
      have hwab : ∀ s ∈ [a, b], wf64 s.1 ∧ wf64 s.2.1 ∧ wf64 s.2.2 := by
        intro s hs
        simp only [List.mem_cons, List.not_mem_nil, or_false] at hs
        rcases hs with rfl | rfl
        · exact ha
        · exact hb
      have HWAB := hide hwab
      clear hwab
      go_upto_region 11 with (fail)
      go_cut [25] (fun v wx => wx.ownsRow w7.heap.size 24 3 v ((stamps [a, b]).length + 1) ((stamps [a, b]).flatMap c3 ++ c3 raw) ∧ Below w7.heap.size w7 wx)
      case first =>
        have hsl : (stamps [a, b]).length ≤ 12 := by unfold stamps; rw [List.length_map, List.length_take]; omega
        have HS := hide (fun (W : World) (h : Below w7.heap.size w7 W) => (show (W.cell? ⟨w.heap.size + 1 + 1, 0, none⟩ = some (.int .i64 a.1) ∧ W.cell? ⟨w.heap.size + 1 + 1, 1, none⟩ = some (.int .i64 a.2.1) ∧ W.cell? ⟨w.heap.size + 1 + 1, 2, none⟩ = some (.int .i64 a.2.2)) ∧ (W.cell? ⟨w.heap.size + 1 + 1 + 1, 0, none⟩ = some (.int .i64 b.1) ∧ W.cell? ⟨w.heap.size + 1 + 1 + 1, 1, none⟩ = some (.int .i64 b.2.1) ∧ W.cell? ⟨w.heap.size + 1 + 1 + 1, 2, none⟩ = some (.int .i64 b.2.2)) ∧
          (W.cell? ⟨w.heap.size + 1 + 1 + 1 + 1, 0, none⟩ = some (.int .i64 raw.1) ∧ W.cell? ⟨w.heap.size + 1 + 1 + 1 + 1, 1, none⟩ = some (.int .i64 raw.2.1) ∧ W.cell? ⟨w.heap.size + 1 + 1 + 1 + 1, 2, none⟩ = some (.int .i64 raw.2.2)) ∧ Below w7.heap.size w7 W from
          ⟨⟨(q3.below h q3.lt).all3.1, (q3.below h q3.lt).all3.2.1, (q3.below h q3.lt).all3.2.2.1⟩, ⟨(q4.below h q4.lt).all3.1, (q4.below h q4.lt).all3.2.1, (q4.below h q4.lt).all3.2.2.1⟩, ⟨(q5.below h q5.lt).all3.1, (q5.below h q5.lt).all3.2.1, (q5.below h q5.lt).all3.2.2.1⟩, h⟩))
        refine wp_region_held_drew (S := fun W => (W.cell? ⟨w.heap.size + 1 + 1, 0, none⟩ = some (.int .i64 a.1) ∧ W.cell? ⟨w.heap.size + 1 + 1, 1, none⟩ = some (.int .i64 a.2.1) ∧ W.cell? ⟨w.heap.size + 1 + 1, 2, none⟩ = some (.int .i64 a.2.2)) ∧ (W.cell? ⟨w.heap.size + 1 + 1 + 1, 0, none⟩ = some (.int .i64 b.1) ∧ W.cell? ⟨w.heap.size + 1 + 1 + 1, 1, none⟩ = some (.int .i64 b.2.1) ∧ W.cell? ⟨w.heap.size + 1 + 1 + 1, 2, none⟩ = some (.int .i64 b.2.2)) ∧
          (W.cell? ⟨w.heap.size + 1 + 1 + 1 + 1, 0, none⟩ = some (.int .i64 raw.1) ∧ W.cell? ⟨w.heap.size + 1 + 1 + 1 + 1, 1, none⟩ = some (.int .i64 raw.2.1) ∧ W.cell? ⟨w.heap.size + 1 + 1 + 1 + 1, 2, none⟩ = some (.int .i64 raw.2.2)) ∧ Below w7.heap.size w7 W) (by kernel_rfl) (HS.out _ (bdrew (Below.refl _ _))) (fun hHeld => ?_)
        refine wpAnyH_take (i := 0) (v := ?_) rfl (by kernel_rfl) (by kernel_rfl) (by kernel_rfl) (fun _ _ _ h => h) (Or.inl ⟨by rfl, ?hy15⟩) (by assumption) ?rs15
        case hy15 => (intro w hSw; (try dsimp only at hSw); go_simp; try (with_reducible rfl))
        (try simp only [Act.put, List.setIfInBounds_toArray, List.set_cons_zero, List.set_cons_succ, List.getElem_toArray, List.getElem_cons_zero, List.getElem_cons_succ])
        refine wpAnyH_take (i := 1) (v := ?_) rfl (by kernel_rfl) (by kernel_rfl) (by kernel_rfl) (fun _ _ _ h => h) (Or.inl ⟨by rfl, ?hy16⟩) (by assumption) ?rs16
        case hy16 => (intro w hSw; (try dsimp only at hSw); go_simp; try (with_reducible rfl))
        (try simp only [Act.put, List.setIfInBounds_toArray, List.set_cons_zero, List.set_cons_succ, List.getElem_toArray, List.getElem_cons_zero, List.getElem_cons_succ])
        refine wpAnyH_take (i := 4) (v := ?_) rfl (by kernel_rfl) (by kernel_rfl) (by kernel_rfl) (fun _ _ _ h => h) (Or.inl ⟨by rfl, ?hy17⟩) (by assumption) ?rs17
        case hy17 => (intro w hSw; (try dsimp only at hSw); go_simp; try (with_reducible rfl))
        (try simp only [Act.put, List.setIfInBounds_toArray, List.set_cons_zero, List.set_cons_succ, List.getElem_toArray, List.getElem_cons_zero, List.getElem_cons_succ])
        refine wpAnyH_ready (rs := [2, 5]) (by kernel_rfl) (by simp) ?_
        refine AllReadyH.cons rfl (fun K hK => ?_) ?_
        · go_simp
          refine hK.out _ _ (by exact (HS.out _ (bdrew (balloc (Below.refl _ _) _)))) (fun hHeld => ?_)
          clear hK K
          (try simp only [Act.put, List.setIfInBounds_toArray, List.set_cons_zero, List.set_cons_succ, List.getElem_toArray, List.getElem_cons_zero, List.getElem_cons_succ])
          refine wpAnyH_ready (rs := [3, 5]) (by kernel_rfl) (by simp) ?_
          refine AllReadyH.cons rfl (fun K hK => ?_) ?_
          · go_simp
            refine (f11 (some ⟨_, 0, none⟩) [a, b] 2 _ (Nat.le_refl _) (by decide) HWAB.out (blk_slr (n := 2) (k := 3) ((Blk.new w7 31 (c3 a ++ c3 b)).drew) (by simp [c3]) (by simp [c3]))).mono ?_
            rintro e wF ⟨vF, rfl, hownF, hbF⟩
            have hownF' := own_mono hownF (show w7.heap.size ≤ _ from Below.size (bdrew (balloc (Below.refl _ _) (.cells (c3 a ++ c3 b).toArray 31))))
            have hbF7 : Below w7.heap.size w7 wF := bthen (bdrew (balloc (Below.refl _ _) (.cells (c3 a ++ c3 b).toArray 31))) hbF
            refine hK.out _ _ (by exact (HS.out _ hbF7)) (fun hHeld => ?_)
            clear hK K
            (try simp only [Act.put, List.setIfInBounds_toArray, List.set_cons_zero, List.set_cons_succ, List.getElem_toArray, List.getElem_cons_zero, List.getElem_cons_succ])
            refine wpAnyH_ready (rs := [5]) (by kernel_rfl) (by simp) ?_
            refine AllReadyH.cons rfl (fun K hK => ?_) ?_
            · go_simp
              refine hK.out _ _ (by exact (HS.out _ (balloc hbF7 _))) (fun hHeld => ?_)
              clear hK K
              (try simp only [Act.put, List.setIfInBounds_toArray, List.set_cons_zero, List.set_cons_succ, List.getElem_toArray, List.getElem_cons_zero, List.getElem_cons_succ])
              refine wpAnyH_ready (rs := [6]) (by kernel_rfl) (by simp) ?_
              refine AllReadyH.cons (o := { dst := some 85, op := Op.call { callee := Callee.builtin Builtin.append, args := #[Operand.tmp 82, Operand.tmp 84], argTypes := #[26, 26] }, type := 26, pos := "law.go:85", after := #[{ on := 3, ground := Ground.data }, { on := 5, ground := Ground.data }, { on := 3, ground := Ground.chain }], guard := none }) rfl (fun K hK => ?_) ?_
              · refine step_append_sl (size := 3) (by rfl) _ _ 26 (by rfl) w7.heap.size 24 i4 (.agg #[.int .i64 0, .int .i64 0, .int .i64 0]) 24 Try.underlying26 hi4 hz40 hz41 hz42 (by rfl) (by decide) _ _ _ (by rfl) (hownF'.alloc _) 1 1 (c3 raw) (by rfl) (slr_blk (cs := c3 raw) (Blk.new wF 24 (c3 raw))) (Below.refl _ _) (by simp [Value.oneCell', c3]) (by unfold maxLen; omega) (by omega) (by exact Below.size (balloc hbF7 (.cells (c3 raw).toArray 24))) ?_
                intro v8 w8 hown8 hgrow8 hor8
                have hb8 : Below w7.heap.size w7 w8 := bgrown (balloc hbF7 (.cells (c3 raw).toArray 24)) hgrow8 (fun j e => (hownF'.lt j e).1)
                refine hK.out _ _ (by exact (HS.out _ hb8)) (fun hHeld => ?_)
                clear hK K
                (try simp only [Act.put, List.setIfInBounds_toArray, List.set_cons_zero, List.set_cons_succ, List.getElem_toArray, List.getElem_cons_zero, List.getElem_cons_succ])
                refine wpAnyH_take (i := 7) (v := ?_) rfl (by kernel_rfl) (by kernel_rfl) (by kernel_rfl) (fun _ _ _ h => h) (Or.inl ⟨by rfl, ?hy18⟩) (by assumption) ?rs18
                case hy18 => (intro w hSw; (try dsimp only at hSw); go_simp; try (with_reducible rfl))
                (try simp only [Act.put, List.setIfInBounds_toArray, List.set_cons_zero, List.set_cons_succ, List.getElem_toArray, List.getElem_cons_zero, List.getElem_cons_succ])
                refine wpAnyH_done (by kernel_rfl) ?_ _
                go_wp2_with fail
                go_meet
                exact ⟨hown8, hb8⟩
              exact AllReadyH.nil
            exact AllReadyH.nil
          refine AllReadyH.cons rfl (fun K hK => ?_) ?_
          · go_simp
            refine hK.out _ _ (by exact (HS.out _ (bdrew (balloc (balloc (Below.refl _ _) _) _)))) (fun hHeld => ?_)
            clear hK K
            (try simp only [Act.put, List.setIfInBounds_toArray, List.set_cons_zero, List.set_cons_succ, List.getElem_toArray, List.getElem_cons_zero, List.getElem_cons_succ])
            have HR := hide (blk_nw w7 (.cells (c3 a ++ c3 b).toArray 31) 24 (c3 raw)).drew
            refine wpAnyH_ready (rs := [3]) (by kernel_rfl) (by simp) ?_
            refine AllReadyH.cons rfl (fun K hK => ?_) ?_
            · go_simp
              refine (f11 (some ⟨_, 0, none⟩) [a, b] 2 _ (Nat.le_refl _) (by decide) HWAB.out (blk_slr (n := 2) (k := 3) (((Blk.new w7 31 (c3 a ++ c3 b)).alloc (.cells (c3 raw).toArray 24)).drew) (by simp [c3]) (by simp [c3]))).mono ?_
              rintro e wF ⟨vF, rfl, hownF, hbF⟩
              have hownF' := own_mono hownF (show w7.heap.size ≤ _ from Below.size (bdrew (balloc (balloc (Below.refl _ _) (.cells (c3 a ++ c3 b).toArray 31)) (.cells (c3 raw).toArray 24))))
              have hbF7 : Below w7.heap.size w7 wF := bthen (bdrew (balloc (balloc (Below.refl _ _) (.cells (c3 a ++ c3 b).toArray 31)) (.cells (c3 raw).toArray 24))) hbF
              refine hK.out _ _ (by exact (HS.out _ hbF7)) (fun hHeld => ?_)
              clear hK K
              (try simp only [Act.put, List.setIfInBounds_toArray, List.set_cons_zero, List.set_cons_succ, List.getElem_toArray, List.getElem_cons_zero, List.getElem_cons_succ])
              refine wpAnyH_ready (rs := [6]) (by kernel_rfl) (by simp) ?_
              refine AllReadyH.cons (o := { dst := some 85, op := Op.call { callee := Callee.builtin Builtin.append, args := #[Operand.tmp 82, Operand.tmp 84], argTypes := #[26, 26] }, type := 26, pos := "law.go:85", after := #[{ on := 3, ground := Ground.data }, { on := 5, ground := Ground.data }, { on := 3, ground := Ground.chain }], guard := none }) rfl (fun K hK => ?_) ?_
              · refine step_append_sl (size := 3) (by rfl) _ _ 26 (by rfl) w7.heap.size 24 i4 (.agg #[.int .i64 0, .int .i64 0, .int .i64 0]) 24 Try.underlying26 hi4 hz40 hz41 hz42 (by rfl) (by decide) _ _ _ (by rfl) (hownF') 1 1 (c3 raw) (by rfl) (slr_blk (cs := c3 raw) (HR.out.below hbF HR.out.lt)) (Below.refl _ _) (by simp [Value.oneCell', c3]) (by unfold maxLen; omega) (by omega) (by exact Below.size (hbF7)) ?_
                intro v8 w8 hown8 hgrow8 hor8
                have hb8 : Below w7.heap.size w7 w8 := bgrown (hbF7) hgrow8 (fun j e => (hownF'.lt j e).1)
                refine hK.out _ _ (by exact (HS.out _ hb8)) (fun hHeld => ?_)
                clear hK K
                (try simp only [Act.put, List.setIfInBounds_toArray, List.set_cons_zero, List.set_cons_succ, List.getElem_toArray, List.getElem_cons_zero, List.getElem_cons_succ])
                refine wpAnyH_take (i := 7) (v := ?_) rfl (by kernel_rfl) (by kernel_rfl) (by kernel_rfl) (fun _ _ _ h => h) (Or.inl ⟨by rfl, ?hy19⟩) (by assumption) ?rs19
                case hy19 => (intro w hSw; (try dsimp only at hSw); go_simp; try (with_reducible rfl))
                (try simp only [Act.put, List.setIfInBounds_toArray, List.set_cons_zero, List.set_cons_succ, List.getElem_toArray, List.getElem_cons_zero, List.getElem_cons_succ])
                refine wpAnyH_done (by kernel_rfl) ?_ _
                go_wp2_with fail
                go_meet
                exact ⟨hown8, hb8⟩
              exact AllReadyH.nil
            exact AllReadyH.nil
          exact AllReadyH.nil
        refine AllReadyH.cons rfl (fun K hK => ?_) ?_
        · go_simp
          refine hK.out _ _ (by exact (HS.out _ (bdrew (balloc (Below.refl _ _) _)))) (fun hHeld => ?_)
          clear hK K
          (try simp only [Act.put, List.setIfInBounds_toArray, List.set_cons_zero, List.set_cons_succ, List.getElem_toArray, List.getElem_cons_zero, List.getElem_cons_succ])
          refine wpAnyH_ready (rs := [2]) (by kernel_rfl) (by simp) ?_
          refine AllReadyH.cons rfl (fun K hK => ?_) ?_
          · go_simp
            refine hK.out _ _ (by exact (HS.out _ (bdrew (balloc (balloc (Below.refl _ _) _) _)))) (fun hHeld => ?_)
            clear hK K
            (try simp only [Act.put, List.setIfInBounds_toArray, List.set_cons_zero, List.set_cons_succ, List.getElem_toArray, List.getElem_cons_zero, List.getElem_cons_succ])
            have HR := hide ((Blk.new w7 24 (c3 raw)).alloc (.cells (c3 a ++ c3 b).toArray 31)).drew
            refine wpAnyH_ready (rs := [3]) (by kernel_rfl) (by simp) ?_
            refine AllReadyH.cons rfl (fun K hK => ?_) ?_
            · go_simp
              refine (f11 (some ⟨_, 0, none⟩) [a, b] 2 _ (Nat.le_refl _) (by decide) HWAB.out (blk_slr (n := 2) (k := 3) ((blk_nw w7 (.cells (c3 raw).toArray 24) 31 (c3 a ++ c3 b)).drew) (by simp [c3]) (by simp [c3]))).mono ?_
              rintro e wF ⟨vF, rfl, hownF, hbF⟩
              have hownF' := own_mono hownF (show w7.heap.size ≤ _ from Below.size (bdrew (balloc (balloc (Below.refl _ _) (.cells (c3 raw).toArray 24)) (.cells (c3 a ++ c3 b).toArray 31))))
              have hbF7 : Below w7.heap.size w7 wF := bthen (bdrew (balloc (balloc (Below.refl _ _) (.cells (c3 raw).toArray 24)) (.cells (c3 a ++ c3 b).toArray 31))) hbF
              refine hK.out _ _ (by exact (HS.out _ hbF7)) (fun hHeld => ?_)
              clear hK K
              (try simp only [Act.put, List.setIfInBounds_toArray, List.set_cons_zero, List.set_cons_succ, List.getElem_toArray, List.getElem_cons_zero, List.getElem_cons_succ])
              refine wpAnyH_ready (rs := [6]) (by kernel_rfl) (by simp) ?_
              refine AllReadyH.cons (o := { dst := some 85, op := Op.call { callee := Callee.builtin Builtin.append, args := #[Operand.tmp 82, Operand.tmp 84], argTypes := #[26, 26] }, type := 26, pos := "law.go:85", after := #[{ on := 3, ground := Ground.data }, { on := 5, ground := Ground.data }, { on := 3, ground := Ground.chain }], guard := none }) rfl (fun K hK => ?_) ?_
              · refine step_append_sl (size := 3) (by rfl) _ _ 26 (by rfl) w7.heap.size 24 i4 (.agg #[.int .i64 0, .int .i64 0, .int .i64 0]) 24 Try.underlying26 hi4 hz40 hz41 hz42 (by rfl) (by decide) _ _ _ (by rfl) (hownF') 1 1 (c3 raw) (by rfl) (slr_blk (cs := c3 raw) (HR.out.below hbF HR.out.lt)) (Below.refl _ _) (by simp [Value.oneCell', c3]) (by unfold maxLen; omega) (by omega) (by exact Below.size (hbF7)) ?_
                intro v8 w8 hown8 hgrow8 hor8
                have hb8 : Below w7.heap.size w7 w8 := bgrown (hbF7) hgrow8 (fun j e => (hownF'.lt j e).1)
                refine hK.out _ _ (by exact (HS.out _ hb8)) (fun hHeld => ?_)
                clear hK K
                (try simp only [Act.put, List.setIfInBounds_toArray, List.set_cons_zero, List.set_cons_succ, List.getElem_toArray, List.getElem_cons_zero, List.getElem_cons_succ])
                refine wpAnyH_take (i := 7) (v := ?_) rfl (by kernel_rfl) (by kernel_rfl) (by kernel_rfl) (fun _ _ _ h => h) (Or.inl ⟨by rfl, ?hy20⟩) (by assumption) ?rs20
                case hy20 => (intro w hSw; (try dsimp only at hSw); go_simp; try (with_reducible rfl))
                (try simp only [Act.put, List.setIfInBounds_toArray, List.set_cons_zero, List.set_cons_succ, List.getElem_toArray, List.getElem_cons_zero, List.getElem_cons_succ])
                refine wpAnyH_done (by kernel_rfl) ?_ _
                go_wp2_with fail
                go_meet
                exact ⟨hown8, hb8⟩
              exact AllReadyH.nil
            exact AllReadyH.nil
          exact AllReadyH.nil
        exact AllReadyH.nil
      case rest =>
        obtain ⟨w8, rfl⟩ : ∃ W : World, W = wc := ⟨_, rfl⟩
        obtain ⟨hown, hb78⟩ := hcut
        have e1 : (stamps [a, b]).flatMap c3 ++ c3 raw = (stamps [a, b] ++ [raw]).flatMap c3 := by simp
        have e2 : (stamps [a, b]).length + 1 = 3 := by simp [stamps]
        have e3 : (stamps [a, b] ++ [raw]).length = 3 := by simp [stamps]
        rw [e1, e2] at hown
        obtain ⟨st, hst⟩ : ∃ st, st = stamps [a, b] ++ [raw] := ⟨_, rfl⟩
        rw [← hst] at hown e3
        obtain ⟨t0, t1, t2, hst3⟩ : ∃ t0 t1 t2, st = [t0, t1, t2] := by
          match st, e3 with
          | [t0, t1, t2], _ => exact ⟨t0, t1, t2, rfl⟩
        obtain ⟨g9, c9, cur9, rfl, hc91, hc92, _, hblk9, htk9⟩ := own_blk' hown (by omega)
        have hT := blk_slr hblk9 (by rw [flat_len c3 3 (fun _ => rfl), e3]) htk9
        rw [hst3] at hT
        have hcT := cells9 hT
        have hg9 := hblk9.lt
        clear hblk9 htk9 hst3 e3
        have hb38 := bthen hb37 hb78
        have hL8 := hL3.to hb38
        have hM8 := hM.to hb38
        have hX8 := hS5.to (bthen hb57 hb78)
        have hY8 := hS7.to hb78
        have hc43 : c4' ≤ 9223372036854775807 := by simpa [maxLen] using hc42
        have hc63 : c6' ≤ 9223372036854775807 := by simpa [maxLen] using hc62
        have hb18 := bthen hb13 hb38
        have hc93 : c9 ≤ 9223372036854775807 := by simpa [maxLen] using hc92
        refine (by assumption : ∀ (a : Act) (W : World), Code.wp Try.prog f4rest (bodyPost Try.prog Try.f4 fun e w' => e = .returned (.bool true) ∧ Below w.heap.size w w') a W → _) _ _ ?_
        exact f4_rest w w8 A' B' A4 A6 L L2 l l2 cv dv c4' c6' g9 c9 person clock t0 t1 t2 _ _ _ _ _ _ _ _ _ _ _ _ _ _ _ _ _ _ _ _ _ _ _ _ _ _ _ _ _ _ _ _ _ _ _ _ _ _ _ _ _ _ _ _ _ _ _ _ _ _ _ _ _ _ _ _ _ _ _ _ _ _ _ _ _ _ _ _ _ _ _ _ _ _ _ _ _ _ _ _ _ _ _ _ _ _ _ _ _ _ _ _ _ _ _ _ _ _ _ _ _ _ _ _ _ _ _ _ _ _ _ _ _ _ _ _ _ _ _ _ _ _ _ _ _ _ _ _ _ _ _ _ _ _ _ _ _ _ _ _ _ _ _ _ _ _ _ _ _ _ _ _ _ _ _ _ _ _ _ _ _ _ _ _ _ _ _ _ _ _ _ _ _ _ _ _ _ _ _ _ _ _ _ _ _ _ _ _ _ _ hle hl8 hcv1 hcv3 hdv1 hdv3 hL2 hl2 hc41 hc43 hc61 hc63 hp1 hp2 hcl1 hcl2 hL8 hM8 (by rw [← hL2]; rw [hL2]; exact hX8) hY8 hcT hg9 hc91 hc93 hb18
end Go.Proofs.Ytenhghkiapkejaa
