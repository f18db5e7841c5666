/- Replica: the reference's Add, Correct, New. -/
import Derived.Test.YtcfbgelhggapjaaGreatDoorQ3
import Derived.Test.YtcfbgelhggapjaaGreatDoorQ8
import Derived.Laws.EntriesVeiled
namespace Go.Proofs.YtcfbgelhggapjaaGreatDoor
open Go.RowKit Go.Shelf
/-- an answer is a struct and a number; it stays one in whatever world keeps its row -/
theorem RepPost.open {q : Int} {o : Option (List Rc)} {w w1 : World} {e : Ending} (h : RepPost q o w e w1) :
    Below w.heap.size w w1 ∧ ∃ (p : Int) (A : Option Addr) (n c : Nat) (er : Int), e = .returned (.tuple #[.agg #[.int .i64 p, .slice A n c], .int .i64 er]) ∧ SlN w1 w.heap.size 7 A n ((o.getD []).flatMap cR) ∧
      ∀ w0 W, w0.heap.size ≤ w.heap.size → Below w0.heap.size w0 W → SlN W w.heap.size 7 A n ((o.getD []).flatMap cR) → RepPost q o w0 (.returned (.tuple #[.agg #[.int .i64 p, .slice A n c], .int .i64 er])) W := by
  obtain ⟨h1, ⟨rfl, rfl⟩ | ⟨m, A, c, rfl, rfl, h2, h3, h4⟩⟩ := h
  · exact ⟨h1, 0, none, 0, 0, 350, rfl, SlN.nil, fun w0 W _ hW _ => ⟨hW, .inl ⟨rfl, rfl⟩⟩⟩
  · exact ⟨h1, q, A, m.length, c, 0, rfl, h4, fun w0 W hs hW hk => ⟨hW, .inr ⟨m, A, c, rfl, rfl, h2, h3, hk.mono hs⟩⟩⟩
set_option maxRecDepth 100000 in
set_option maxHeartbeats 4000000 in
theorem c_rAdd (p at_ kind : Int) (text : ByteArray) (A : Option Addr) (N c : Nat) (l : List Rc) (w : World) (hnc : N ≤ c) (hc : c ≤ 9223372036854775807) (hr : SlR w w.heap.size 7 A N (l.flatMap cR)) :
    Calls Tryz.prog 19 #[rpV p A N c, .int .i64 at_, .int .i64 kind, .string text] w (RepPost p (addM p l ⟨0, 0, at_, -1, 0, kind, text⟩) w) := by
  have hb0 := balloc (balloc (Below.refl w.heap.size w) (.cells #[.int .i64 p, .slice A N c] 25)) (.cells #[.int .i64 0, .slice none 0 0] 25)
  have hk := c_rown p A N c l ⟨0, 0, at_, -1, 0, kind, text⟩ ((w.alloc (.cells #[.int .i64 p, .slice A N c] 25)).alloc (.cells #[.int .i64 0, .slice none 0 0] 25)) hnc hc (hr.to' hb0)
  have gZ : Blk ((w.alloc (.cells #[.int .i64 p, .slice A N c] 25)).alloc (.cells #[.int .i64 0, .slice none 0 0] 25)) (w.heap.size + 1) 25 [.int .i64 0, .slice none 0 0] := by
    have := Blk.new (w.alloc (.cells #[.int .i64 p, .slice A N c] 25)) 25 [.int .i64 0, .slice none 0 0]
    rw [show (w.alloc (.cells #[.int .i64 p, .slice A N c] 25)).heap.size = w.heap.size + 1 from by simp] at this
    exact this
  have HZ := hide (And.intro gZ hb0)
  clear hr gZ hb0
  unfold rpV
  unfold rpV rcV at hk
  dsimp only at hk
  generalize addM p l _ = o at *
  go_enter Tryz.func19, Tryz.ntmps19
  go_wp2_with fail
  refine hk.mono ?_
  clear hk
  intro e w1 hp
  obtain ⟨hb1, p', A', n', c', er, rfl, hs, hfin⟩ := hp.open
  obtain ⟨z0, z1, z2, z3⟩ := (HZ.out.1.below hb1 HZ.out.1.lt).all2
  have hz := (HZ.out.1.below hb1 HZ.out.1.lt).lt
  have HF := hide (And.intro hfin (And.intro hs hb1))
  clear hp hfin hs hb1
  go_wp2
  refine bodyPost_ret (v := .tuple #[.agg #[.int .i64 p', .slice A' n' c'], .int .i64 er]) (by simp [results, Tryz.results19, go_sem, z0, z1]) rfl ?_
  obtain ⟨hfin, hs, hb1⟩ := HF.out
  exact hfin w _ (by simp; omega) (((bthen HZ.out.2 hb1).setCell (by simp) _).setCell (by simp) _) ((hs.set _ (by simp) _).set _ (by simp) _)
set_option maxRecDepth 100000 in
set_option maxHeartbeats 4000000 in
theorem c_rCorrect (p at_ pen num kind : Int) (text : ByteArray) (A : Option Addr) (N c : Nat) (l : List Rc) (w : World) (hnc : N ≤ c) (hc : c ≤ 9223372036854775807) (hr : SlR w w.heap.size 7 A N (l.flatMap cR)) :
    Calls Tryz.prog 23 #[rpV p A N c, .int .i64 at_, .int .i64 pen, .int .i64 num, .int .i64 kind, .string text] w (RepPost p (corM p l ⟨0, 0, at_, pen, num, kind, text⟩) w) := by
  have hb0 := balloc (balloc (Below.refl w.heap.size w) (.cells #[.int .i64 p, .slice A N c] 25)) (.cells #[.int .i64 0, .slice none 0 0] 25)
  have gZ : Blk ((w.alloc (.cells #[.int .i64 p, .slice A N c] 25)).alloc (.cells #[.int .i64 0, .slice none 0 0] 25)) (w.heap.size + 1) 25 [.int .i64 0, .slice none 0 0] := by
    have := Blk.new (w.alloc (.cells #[.int .i64 p, .slice A N c] 25)) 25 [.int .i64 0, .slice none 0 0]
    rw [show (w.alloc (.cells #[.int .i64 p, .slice A N c] 25)).heap.size = w.heap.size + 1 from by simp] at this
    exact this
  by_cases hneg : pen < 0
  · have HE := hide (show corM p l ⟨0, 0, at_, pen, num, kind, text⟩ = none by
      unfold corM
      split
      · rfl
      · rename_i hn
        unfold addM
        split
        · split
          · rename_i h1 h2
            have hv := (vr_iff.1 h2).2.2
            have hm : newx p l ⟨0, 0, at_, pen, num, kind, text⟩ ∈ putL l (newx p l ⟨0, 0, at_, pen, num, kind, text⟩) := mem_putL.2 (.inl rfl)
            have hf := hv.fm _ hm
            rcases fm_tgt hf with h | ⟨_, h, _⟩
            · exfalso; apply hn
              unfold rootB at h
              rw [Bool.and_eq_true] at h
              exact ⟨of_decide_eq_true h.1, of_decide_eq_true h.2⟩
            · exfalso
              have : (0 : Int) ≤ pen := h
              omega
          · rfl
        · rfl)
    have HZ := hide (And.intro gZ hb0)
    clear hr gZ hb0
    unfold rpV
    go_enter Tryz.func23, Tryz.ntmps23
    go_wp2
    exact bodyPost_ret (v := .tuple #[.agg #[.int .i64 0, .slice none 0 0], .int .i64 350]) (by simp [results, Tryz.results23, go_sem]) rfl ⟨(by first | exact HZ.out.2 | exact (HZ.out.2.setCell (by simp) _).setCell (by simp) _), .inl ⟨HE.out, rfl⟩⟩
  · have HE := hide (show corM p l ⟨0, 0, at_, pen, num, kind, text⟩ = addM p l ⟨0, 0, at_, pen, num, kind, text⟩ by
      unfold corM
      rw [if_neg (by dsimp only; omega)])
    rw [HE.out]
    have hk := c_rown p A N c l ⟨0, 0, at_, pen, num, kind, text⟩ ((w.alloc (.cells #[.int .i64 p, .slice A N c] 25)).alloc (.cells #[.int .i64 0, .slice none 0 0] 25)) hnc hc (hr.to' hb0)
    have HZ := hide (And.intro gZ hb0)
    clear hr gZ hb0 HE
    unfold rpV
    unfold rpV rcV at hk
    dsimp only at hk
    generalize addM p l _ = o at *
    go_enter Tryz.func23, Tryz.ntmps23
    go_wp2_with fail
    refine hk.mono ?_
    clear hk
    intro e w1 hp
    obtain ⟨hb1, p', A', n', c', er, rfl, hs, hfin⟩ := hp.open
    obtain ⟨z0, z1, z2, z3⟩ := (HZ.out.1.below hb1 HZ.out.1.lt).all2
    have hz := (HZ.out.1.below hb1 HZ.out.1.lt).lt
    have HF := hide (And.intro hfin (And.intro hs hb1))
    clear hp hfin hs hb1
    go_wp2
    refine bodyPost_ret (v := .tuple #[.agg #[.int .i64 p', .slice A' n' c'], .int .i64 er]) (by simp [results, Tryz.results23, go_sem, z0, z1]) rfl ?_
    obtain ⟨hfin, hs, hb1⟩ := HF.out
    exact hfin w _ (by simp; omega) (((bthen HZ.out.2 hb1).setCell (by simp) _).setCell (by simp) _) ((hs.set _ (by simp) _).set _ (by simp) _)
def newM (p : Int) : Option (List Rc) := if inB p 0 39 then some [] else none
set_option maxRecDepth 100000 in
set_option maxHeartbeats 4000000 in
theorem c_rNew (p : Int) (w : World) : Calls Tryz.prog 34 #[.int .i64 p] w (RepPost p (newM p) w) := by
  have hb0 := balloc (Below.refl w.heap.size w) (.cells #[.int .i64 0, .slice none 0 0] 25)
  by_cases h1 : p < 0
  · have HE := hide (show newM p = none by unfold newM; rw [show inB p 0 39 = false by unfold inB; simp; omega]; rfl)
    have HB := hide hb0
    clear hb0
    go_enter Tryz.func34, Tryz.ntmps34
    go_wp2
    exact bodyPost_ret (v := .tuple #[.agg #[.int .i64 0, .slice none 0 0], .int .i64 350]) (by simp [results, Tryz.results34, go_sem]) rfl ⟨(by first | exact HB.out | exact balloc (Below.refl _ _) _ | exact HB.out.setCell (by simp) _ | exact (HB.out.setCell (by simp) _).setCell (by simp) _), .inl ⟨HE.out, rfl⟩⟩
  · by_cases h2 : p > 39
    · have HE := hide (show newM p = none by unfold newM; rw [show inB p 0 39 = false by unfold inB; simp; omega]; rfl)
      have HB := hide hb0
      clear hb0
      go_enter Tryz.func34, Tryz.ntmps34
      go_wp2
      exact bodyPost_ret (v := .tuple #[.agg #[.int .i64 0, .slice none 0 0], .int .i64 350]) (by simp [results, Tryz.results34, go_sem]) rfl ⟨(by first | exact HB.out | exact balloc (Below.refl _ _) _ | exact HB.out.setCell (by simp) _ | exact (HB.out.setCell (by simp) _).setCell (by simp) _), .inl ⟨HE.out, rfl⟩⟩
    · have HE := hide (show newM p = some [] by unfold newM; rw [show inB p 0 39 = true by unfold inB; simp; omega]; rfl)
      have HB := hide hb0
      clear hb0
      go_enter Tryz.func34, Tryz.ntmps34
      go_wp2
      exact bodyPost_ret (v := .tuple #[.agg #[.int .i64 p, .slice none 0 0], .int .i64 0]) (by simp [results, Tryz.results34, go_sem]) rfl ⟨(by first | exact HB.out | exact balloc (Below.refl _ _) _ | exact HB.out.setCell (by simp) _ | exact (HB.out.setCell (by simp) _).setCell (by simp) _), .inr ⟨[], none, 0, HE.out, rfl, Nat.le_refl _, by decide, SlN.nil⟩⟩
end Go.Proofs.YtcfbgelhggapjaaGreatDoor
/- Replica: the package's Valid, checked, New. -/
namespace Go.Proofs.YtcfbgelhggapjaaGreatDoor
open Go.RowKit Go.Shelf
theorem c_pValidC1 (b g6 : Nat) (l : List Rc) (x : Rc) (W : World) (h6 : W.cell? ⟨g6, 0, none⟩ = some (.func (.func 53) #[.map (some b)] #[])) (hbk : BK W b l) (hR : RL W) :
    Calls Tryz.prog 55 #[rcV x, .pointer (some ⟨g6, 0, none⟩)] W fun e w' => e = .returned (.bool (!soF l x)) ∧ Below W.heap.size W w' := by
  have hlt := World.block_lt_of_cell? W _ h6
  simp only [] at hlt
  have hb0 := balloc (Below.refl W.heap.size W) (.cells #[.int .i64 x.pen, .int .i64 x.num, .int .i64 x.at_, .int .i64 x.of, .int .i64 x.which, .int .i64 x.kind, .string x.text] 49)
  have hc := c_bsound b l x _ (hbk.to hb0) (hR.to' hb0)
  have HB := hide hb0
  clear hbk hR hb0
  unfold rcV at hc ⊢
  generalize soF l x = so at *
  go_enter Tryz.func55, Tryz.ntmps55
  go_wp2_with (go_at_call 53; refine hc.mono ?_; clear hc; rintro e w1 ⟨rfl, hb1⟩)
  go_ret
  exact ⟨rfl, bthen HB.out hb1⟩
theorem ok_cases (x y : Rc) : okAt y x = (if x.pen = y.pen then decide (x.num = y.num + 1) && decide (y.at_ ≤ x.at_) else decide (x.num = 1) && lsB y x) := by
  unfold okAt
  split
  · rfl
  · rename_i h
    congr 1
    unfold lsB
    rw [show decide (y.pen = x.pen) = false from decide_eq_false (fun e => h e.symm)]
    simp
theorem vr_re (p : Int) (l : List Rc) (h : (∀ i, i < l.length → okI l i = true)) (hp : inB p 0 39 = true) (hl : l.length ≤ 150) : vrB p l = !(l.any (fun x => !soF l x)) := by
  unfold vrB vlB
  rw [hp, decide_eq_true hl, show chB l = true by unfold chB; rw [List.all_eq_true]; exact fun i hi => h i (List.mem_range.1 hi)]
  have hn := nd_of_ok h
  simp only [Bool.true_and]
  rw [List.any_eq_not_all_not, Bool.not_not]
  congr 1
  funext x
  rw [soF_eq hn]; simp
set_option linter.unusedSimpArgs false in
set_option linter.unusedVariables false in
set_option maxRecDepth 100000 in
set_option maxHeartbeats 16000000 in
theorem c_pValid (p : Int) (A : Option Addr) (N c : Nat) (l : List Rc) (w : World) (hR : RL w) (hr : SlR w w.heap.size 7 A N (l.flatMap cR)) (hN : N ≤ 9223372036854775807) :
    Calls Tryz.prog 16 #[rpV p A N c] w fun e w' => e = .returned (.bool (vrB p l)) ∧ Below w.heap.size w w' := by
  have HL := hide hr.lenR
  have hB0 := balloc (Below.refl w.heap.size w) (.cells #[.int .i64 p, .slice A N c] 25)
  have HB0 := hide hB0
  have gB0 := Blk.new w 25 [.int .i64 p, .slice A N c]
  have HR := hide hR
  have hwl := hR.lt
  have HG0 := hide (And.intro gB0 (hr.to' hB0))
  clear hR hr hB0 gB0
  cases hp : inB p 0 39 with
  | false =>
    have HZ : Hid (vrB p l = false) := hide (by unfold vrB; rw [hp]; rfl)
    obtain ⟨r0, r1⟩ := HG0.out.1.two
    unfold rpV
    go_enter Tryz.func16, Tryz.ntmps16
    go_wp2_with (go_at_call 49; refine (c_penv hp _).mono ?_; rintro e w9 ⟨rfl, rfl⟩)
    go_ret
    exact ⟨ret_bool HZ.out.symm, HB0.out⟩
  | true =>
  by_cases h3 : (N : Int) > 150
  · have HZ : Hid (vrB p l = false) := hide (by unfold vrB; have := HL.out; simp; omega)
    obtain ⟨r0, r1⟩ := HG0.out.1.two
    unfold rpV
    go_enter Tryz.func16, Tryz.ntmps16
    go_wp2_with (go_at_call 49; refine (c_penv hp _).mono ?_; rintro e w9 ⟨rfl, rfl⟩)
    go_ret
    exact ⟨ret_bool HZ.out.symm, HB0.out⟩
  have HV : Hid (vrB p l = vlB l) := hide (by unfold vrB; have := HL.out; rw [hp, decide_eq_true (show l.length ≤ 150 by omega)]; rfl)
  have HVr : Hid ((∀ i, i < l.length → okI l i = true) → vrB p l = !(l.any (fun x => !soF l x))) := hide (fun h => vr_re p l h hp (by have := HL.out; omega))
  obtain ⟨r0, r1⟩ := HG0.out.1.two
  unfold rpV
  go_enter Tryz.func16, Tryz.ntmps16
  go_wp2_with (go_at_call 49; refine (c_penv hp _).mono ?_; rintro e w9 ⟨rfl, rfl⟩)
  clear r0 r1 hp
  generalize hw1 : w.alloc (.cells #[.int .i64 p, .slice A N c] 25) = w1 at *
  have hs1 : w1.heap.size = w.heap.size + 1 := by rw [← hw1]; simp
  clear hw1
  have HS1 := hide hs1
  have hlt1 : w.heap.size < w1.heap.size := by omega
  clear hs1
  go_loopw [20] (fun i wr => ∃ k : Nat, k ≤ N ∧ i = .int .i64 k ∧ Hid (∀ j, j < k → okI l j = true) ∧ Below w1.heap.size w1 wr) (fun i _ => N - (intOf i).toNat)
  case atStart => exact ⟨0, Nat.zero_le _, rfl, fun j hj => absurd hj (by omega), Below.refl _ _⟩
  case round =>
    obtain ⟨k, hk, rfl, HI, hb⟩ := hrel
    by_cases hlt : k < N
    · have hkl : k < l.length := by have := HL.out; omega
      obtain ⟨b, off, rfl, hbb⟩ := HG0.out.2.some_of (by omega)
      obtain ⟨hbb1, x0, x1, x2, x3, x4, x5, x6⟩ := HG0.out.2.cellsR hb hkl
      have hji : (k : Int) < (N : Int) := by omega
      obtain ⟨x, hxe⟩ : ∃ x, x = l[k] := ⟨_, rfl⟩
      rw [← hxe] at x0 x1 x2 x3 x4 x5 x6
      have hW0 := balloc (Below.refl wr.heap.size wr) (.cells #[.int .i64 x.pen, .int .i64 x.num, .int .i64 x.at_, .int .i64 x.of, .int .i64 x.which, .int .i64 x.kind, .string x.text] 49)
      have gX0 := Blk.new wr 49 (cR x)
      have hwr : w1.heap.size ≤ wr.heap.size := hb.size
      obtain ⟨W0, hW0e⟩ : ∃ W0, wr.alloc (.cells #[.int .i64 x.pen, .int .i64 x.num, .int .i64 x.at_, .int .i64 x.of, .int .i64 x.which, .int .i64 x.kind, .string x.text] 49) = W0 := ⟨_, rfl⟩
      rw [hW0e] at hW0
      have HX : Hid (∀ V, Below W0.heap.size W0 V → Blk V w.heap.size 25 [.int .i64 p, .slice (some ⟨b, off, none⟩) N c] ∧ SlR V V.heap.size 7 (some ⟨b, off, none⟩) N (l.flatMap cR) ∧ Blk V wr.heap.size 49 (cR x) ∧ RL V ∧ Below w1.heap.size w1 V) := hide (fun V h => by
        have h1 := bthen hb (bthen hW0 h)
        have gX1 : Blk W0 wr.heap.size 49 (cR x) := by rw [← hW0e]; exact gX0
        exact ⟨HG0.out.1.below h1 hlt1, HG0.out.2.to' h1, gX1.below h gX1.lt, (HR.out.to' HB0.out).to' h1, h1⟩)
      have HNo := hide (fun h : okI l k = false => (HV.out.trans (ok_no hkl h) : vrB p l = false))
      have HYes := hide (fun (h : okI l k = true) => (fun j hj => by
        by_cases e : j = k
        · subst e; exact h
        · exact HI.out j (by omega) : ∀ j, j < k + 1 → okI l j = true))
      have HOz : Hid (∀ h : k = 0, okI l k = (fmB l[k] && decide (l[k].num = 1))) := fun h => by subst h; exact ok_zero hkl
      have HOs : Hid (∀ h : 0 < k, okI l k = (fmB l[k] && okAt (l[k - 1]'(by omega)) l[k])) := fun h => by
        have := ok_succ (l := l) (k := k - 1) (by omega)
        simp only [Nat.sub_add_cancel h] at this
        exact this
      have HFy : Hid (∀ h : 0 < k, fmB (l[k - 1]'(by omega)) = true) := fun h => ok_fm (by omega) (HI.out (k - 1) (by omega))
      rw [← hxe] at HOz HOs
      have hW0' := Below.refl W0.heap.size W0
      clear hW0 gX0 HI hb
      cases hfx : fmB x with
      | false =>
        have HZ : Hid (vrB p l = false) := hide (HNo.out (by
          rcases Nat.eq_zero_or_pos k with h | h
          · rw [HOz.out h, hfx]; rfl
          · rw [HOs.out h, hfx]; rfl))
        clear HNo HYes HOz HOs hxe
        rcases Nat.eq_zero_or_pos k with h0 | h0
        · have d0 : ((k : Int) == 0) = true := by simp [h0]
          clear h0 HFy
          go_upto_region 6 with (fail)
          try rw [hW0e]
          clear hW0e x0 x1 x2 x3 x4 x5 x6
          have hW0 := hW0'
          clear hW0'
          obtain ⟨gB, hsl, gX, hRL, -⟩ := HX.out W0 hW0
          obtain ⟨r0, r1⟩ := gB.bw2
          obtain ⟨z0, z1, z2, z3, z4, z5, z6⟩ := gX.bwR
          have lB := gB.lt
          have lX := gX.lt
          clear gB hsl gX hRL
          go_wp2_with fail
          refine wp_region_bw W0 (Below.refl _ _) (by kernel_rfl) (by kernel_rfl) ?_
          repeat (go_big_quiet_step (fail))
          refine wpQuiet_nil ?_
          intro V1 hV1'
          have hV1 := bthen hW0 hV1'
          clear r0 r1 z0 z1 z2 z3 z4 z5 z6 lB lX hV1' 
          obtain ⟨gB, hsl, gX, hRL, -⟩ := HX.out V1 hV1
          obtain ⟨c0, c1, c2, c3, c4, c5, c6⟩ := gX.allR
          have hcf := c_pformed x V1 hRL
          rw [hfx] at hcf
          unfold rcV at hcf
          have lX := gX.lt
          have HX2 := hide (gX)
          clear gB hsl gX hRL
          go_wp2_with fail
          clear c0 c1 c2 c3 c4 c5 c6 lX
          refine hcf.mono ?_
          clear hcf
          rintro e V2 ⟨rfl, hV2'⟩
          have hV2 := bthen hV1 hV2'
          obtain ⟨c0, c1, c2, c3, c4, c5, c6⟩ := (HX2.out.below hV2' HX2.out.lt).allR
          have lX2 := (HX2.out.below hV2' HX2.out.lt).lt
          clear hV1 hV2' HX2
          go_wp2_with fail
          go_ret
          exact ⟨ret_bool HZ.out.symm, bthen HB0.out (HX.out _ (by assumption)).2.2.2.2⟩
        · have hk1 : k - 1 < l.length := by omega
          obtain ⟨y, hkY⟩ : ∃ y, l[k - 1]'hk1 = y := ⟨_, rfl⟩
          have d0 : ((k : Int) == 0) = false := by simp; omega
          have ek : ((k : Int) - 1).toNat = k - 1 := by omega
          have ek1 : (0 : Int) ≤ (k : Int) - 1 := by omega
          have ek2 : (k : Int) - 1 < (N : Int) := by omega
          clear HFy h0
          go_upto_region 6 with (fail)
          try rw [hW0e]
          clear hW0e x0 x1 x2 x3 x4 x5 x6
          have hW0 := hW0'
          clear hW0'
          obtain ⟨gB, hsl, gX, hRL, -⟩ := HX.out W0 hW0
          obtain ⟨r0, r1⟩ := gB.bw2
          obtain ⟨z0, z1, z2, z3, z4, z5, z6⟩ := gX.bwR
          obtain ⟨y0, y1, y2, y3, y4, y5, y6⟩ := hsl.bwR (k := k - 1) hk1
          rw [hkY] at y0 y1 y2 y3 y4 y5 y6
          have lB := gB.lt
          have lX := gX.lt
          clear gB hsl gX hRL
          go_wp2_with fail
          refine wp_region_bw W0 (Below.refl _ _) (by kernel_rfl) (by kernel_rfl) ?_
          repeat (go_big_quiet_step (fail))
          refine wpQuiet_nil ?_
          intro V1 hV1'
          have hV1 := bthen hW0 hV1'
          clear r0 r1 z0 z1 z2 z3 z4 z5 z6 lB lX hV1' y0 y1 y2 y3 y4 y5 y6
          obtain ⟨gB, hsl, gX, hRL, -⟩ := HX.out V1 hV1
          obtain ⟨c0, c1, c2, c3, c4, c5, c6⟩ := gX.allR
          have hcf := c_pformed x V1 hRL
          rw [hfx] at hcf
          unfold rcV at hcf
          have lX := gX.lt
          have HX2 := hide (gX)
          clear gB hsl gX hRL
          go_wp2_with fail
          clear c0 c1 c2 c3 c4 c5 c6 lX
          refine hcf.mono ?_
          clear hcf
          rintro e V2 ⟨rfl, hV2'⟩
          have hV2 := bthen hV1 hV2'
          obtain ⟨c0, c1, c2, c3, c4, c5, c6⟩ := (HX2.out.below hV2' HX2.out.lt).allR
          have lX2 := (HX2.out.below hV2' HX2.out.lt).lt
          clear hV1 hV2' HX2
          go_wp2_with fail
          go_ret
          exact ⟨ret_bool HZ.out.symm, bthen HB0.out (HX.out _ (by assumption)).2.2.2.2⟩
      | true =>
        rcases Nat.eq_zero_or_pos k with h0 | h0
        · have HO : Hid (okI l k = decide (x.num = 1)) := hide (by rw [HOz.out h0, hfx]; rfl)
          have d0 : ((k : Int) == 0) = true := by simp [h0]
          have d0' : decide ((0 : Int) < (k : Int)) = false := decide_eq_false (by omega)
          have d0'' : decide (0 < k) = false := decide_eq_false (by omega)
          clear HOz HOs HFy h0 hxe
          go_upto_region 6 with (fail)
          try rw [hW0e]
          clear hW0e x0 x1 x2 x3 x4 x5 x6
          have hW0 := hW0'
          clear hW0'
          obtain ⟨gB, hsl, gX, hRL, -⟩ := HX.out W0 hW0
          obtain ⟨r0, r1⟩ := gB.bw2
          obtain ⟨z0, z1, z2, z3, z4, z5, z6⟩ := gX.bwR
          have lB := gB.lt
          have lX := gX.lt
          clear gB hsl gX hRL
          go_wp2_with fail
          refine wp_region_bw W0 (Below.refl _ _) (by kernel_rfl) (by kernel_rfl) ?_
          repeat (go_big_quiet_step (fail))
          refine wpQuiet_nil ?_
          intro V1 hV1'
          have hV1 := bthen hW0 hV1'
          clear r0 r1 z0 z1 z2 z3 z4 z5 z6 lB lX hV1' 
          obtain ⟨gB, hsl, gX, hRL, -⟩ := HX.out V1 hV1
          obtain ⟨c0, c1, c2, c3, c4, c5, c6⟩ := gX.allR
          have hcf := c_pformed x V1 hRL
          rw [hfx] at hcf
          unfold rcV at hcf
          have lX := gX.lt
          have HX2 := hide (gX)
          clear gB hsl gX hRL
          go_wp2_with fail
          clear c0 c1 c2 c3 c4 c5 c6 lX
          refine hcf.mono ?_
          clear hcf
          rintro e V2 ⟨rfl, hV2'⟩
          have hV2 := bthen hV1 hV2'
          obtain ⟨c0, c1, c2, c3, c4, c5, c6⟩ := (HX2.out.below hV2' HX2.out.lt).allR
          have lX2 := (HX2.out.below hV2' HX2.out.lt).lt
          clear hV1 hV2' HX2
          by_cases h1 : x.num = 1
          · have HZ := hide (HYes.out (by rw [HO.out]; rw [decide_eq_true h1]))
            clear HNo HYes HO
            have d1 : (x.num != 1) = false := by simp [h1]
            clear h1
            go_wp2_with fail
            clear c0 c1 c2 c3 c4 c5 c6 lX2
            obtain ⟨gB, hsl, gX, hRL, -⟩ := HX.out V2 hV2
            obtain ⟨r0, r1⟩ := gB.bw2
            obtain ⟨z0, z1, z2, z3, z4, z5, z6⟩ := gX.bwR
            have lB := gB.lt
            have lX := gX.lt
            clear gB hsl gX hRL

            refine wp_region_bw V2 (Below.refl _ _) (by kernel_rfl) (by kernel_rfl) ?_
            repeat (go_big_quiet_step (fail))
            refine wpQuiet_nil ?_
            intro V3 hV3'
            have hV3 := bthen hV2 hV3'
            clear r0 r1 z0 z1 z2 z3 z4 z5 z6 lB lX hV3' 
            go_wp2_with fail
            go_roundw
            case rel => exact ⟨k + 1, by omega, by go_num, HZ, (HX.out _ hV3).2.2.2.2⟩
            case measure => simp [intOf]; omega
          · have HZ : Hid (vrB p l = false) := hide (HNo.out (by rw [HO.out]; rw [decide_eq_false h1]))
            clear HNo HYes HO
            have d1 : (x.num != 1) = true := by simp [h1]
            clear h1
            go_wp2_with fail
            go_ret
            exact ⟨ret_bool HZ.out.symm, bthen HB0.out (HX.out _ (by assumption)).2.2.2.2⟩
        · have hk1 : k - 1 < l.length := by omega
          obtain ⟨y, hkY⟩ : ∃ y, l[k - 1]'hk1 = y := ⟨_, rfl⟩
          have HO : Hid (okI l k = (if x.pen = y.pen then decide (x.num = y.num + 1) && decide (y.at_ ≤ x.at_) else decide (x.num = 1) && lsB y x)) := hide (by rw [HOs.out h0, hfx, hkY, ok_cases x y]; rfl)
          have hyn := fm_num (HFy.out h0)
          rw [hkY] at hyn
          obtain ⟨hy1, hy2, -⟩ := hyn
          have d0 : ((k : Int) == 0) = false := by simp; omega
          have d0' : decide ((0 : Int) < (k : Int)) = true := decide_eq_true (by omega)
          have d0'' : decide (0 < k) = true := decide_eq_true (by omega)
          have ek : ((k : Int) - 1).toNat = k - 1 := by omega
          have ek1 : (0 : Int) ≤ (k : Int) - 1 := by omega
          have ek2 : (k : Int) - 1 < (N : Int) := by omega
          clear HOz HOs HFy h0 hxe
          go_upto_region 6 with (fail)
          try rw [hW0e]
          clear hW0e x0 x1 x2 x3 x4 x5 x6
          have hW0 := hW0'
          clear hW0'
          by_cases h2 : x.pen = y.pen
          · have d2 : (y.pen != x.pen) = false := by simp [h2]
            have H2 := hide h2
            clear h2
            obtain ⟨gB, hsl, gX, hRL, -⟩ := HX.out W0 hW0
            obtain ⟨r0, r1⟩ := gB.bw2
            obtain ⟨z0, z1, z2, z3, z4, z5, z6⟩ := gX.bwR
            obtain ⟨y0, y1, y2, y3, y4, y5, y6⟩ := hsl.bwR (k := k - 1) hk1
            rw [hkY] at y0 y1 y2 y3 y4 y5 y6
            have lB := gB.lt
            have lX := gX.lt
            clear gB hsl gX hRL
            go_wp2_with fail
            refine wp_region_bw W0 (Below.refl _ _) (by kernel_rfl) (by kernel_rfl) ?_
            repeat (go_big_quiet_step (fail))
            refine wpQuiet_nil ?_
            intro V1 hV1'
            have hV1 := bthen hW0 hV1'
            clear r0 r1 z0 z1 z2 z3 z4 z5 z6 lB lX hV1' y0 y1 y2 y3 y4 y5 y6
            obtain ⟨gB, hsl, gX, hRL, -⟩ := HX.out V1 hV1
            obtain ⟨c0, c1, c2, c3, c4, c5, c6⟩ := gX.allR
            have hcf := c_pformed x V1 hRL
            rw [hfx] at hcf
            unfold rcV at hcf
            have lX := gX.lt
            have HX2 := hide (gX)
            clear gB hsl gX hRL
            go_wp2_with fail
            clear c0 c1 c2 c3 c4 c5 c6 lX
            refine hcf.mono ?_
            clear hcf
            rintro e V2 ⟨rfl, hV2'⟩
            have hV2 := bthen hV1 hV2'
            obtain ⟨c0, c1, c2, c3, c4, c5, c6⟩ := (HX2.out.below hV2' HX2.out.lt).allR
            have lX2 := (HX2.out.below hV2' HX2.out.lt).lt
            clear hV1 hV2' HX2
            cases h3 : lsB y x with
            | false =>
              have HZ : Hid (vrB p l = false) := hide (HNo.out (by rw [HO.out]; rw [if_pos H2.out]; rw [show decide (x.num = y.num + 1) = false from decide_eq_false (fun e => by rw [show lsB y x = true from ls_iff.2 (.inr ⟨H2.out.symm, by omega⟩)] at h3; cases h3)]; rfl))
              clear HNo HYes HO
              have hz := hide (show ¬ lsZ y x < 0 from fun h => by rw [lsZ_neg.1 h] at h3; cases h3)
              clear h3
              go_wp2_with fail
              clear c0 c1 c2 c3 c4 c5 c6 lX2
              obtain ⟨gB, hsl, gX, hRL, -⟩ := HX.out V2 hV2
              obtain ⟨r0, r1⟩ := gB.bw2
              obtain ⟨z0, z1, z2, z3, z4, z5, z6⟩ := gX.bwR
              obtain ⟨y0, y1, y2, y3, y4, y5, y6⟩ := hsl.bwR (k := k - 1) hk1
              rw [hkY] at y0 y1 y2 y3 y4 y5 y6
              have lB := gB.lt
              have lX := gX.lt
              clear gB hsl gX hRL
              have hcL := fun q : BW V2 => (c_plisted y x q.val).mono fun e w' (h : e = .returned (.int .i64 (lsZ y x)) ∧ GW q.val w') => (⟨h.1, h.2.below⟩ : e = .returned (.int .i64 (lsZ y x)) ∧ Below q.val.heap.size q.val w')
              unfold rcV at hcL
              generalize lsZ y x = Z at *
              have hzz : decide ((0 : Int) ≤ Z) = true := decide_eq_true (by have := hz.out; omega)
              refine wp_region_bw V2 (Below.refl _ _) (by kernel_rfl) (by kernel_rfl) ?_
              repeat (go_big_quiet_step ((go_at_call 51; exact bw_call (hcL _))))
              refine wpQuiet_nil ?_
              intro V3 hV3'
              have hV3 := bthen hV2 hV3'
              clear r0 r1 z0 z1 z2 z3 z4 z5 z6 lB lX hV3' y0 y1 y2 y3 y4 y5 y6
              go_wp2_with fail
              go_ret
              exact ⟨ret_bool HZ.out.symm, bthen HB0.out (HX.out _ (by assumption)).2.2.2.2⟩
            | true =>
              have hz := hide (lsZ_neg.2 h3)
              clear h3
              by_cases h1 : x.num = y.num + 1
              · have d1 : (x.num != y.num + 1) = false := by simp [h1]
                by_cases h4 : x.at_ < y.at_
                · have HZ : Hid (vrB p l = false) := hide (HNo.out (by rw [HO.out]; rw [if_pos H2.out, decide_eq_true h1, show decide (y.at_ ≤ x.at_) = false from decide_eq_false (by omega)]; rfl))
                  clear HNo HYes HO
                  have d4 : decide (x.at_ < y.at_) = true := decide_eq_true h4
                  clear h1
                  go_wp2_with fail
                  clear c0 c1 c2 c3 c4 c5 c6 lX2
                  obtain ⟨gB, hsl, gX, hRL, -⟩ := HX.out V2 hV2
                  obtain ⟨r0, r1⟩ := gB.bw2
                  obtain ⟨z0, z1, z2, z3, z4, z5, z6⟩ := gX.bwR
                  obtain ⟨y0, y1, y2, y3, y4, y5, y6⟩ := hsl.bwR (k := k - 1) hk1
                  rw [hkY] at y0 y1 y2 y3 y4 y5 y6
                  have lB := gB.lt
                  have lX := gX.lt
                  clear gB hsl gX hRL
                  have hcL := fun q : BW V2 => (c_plisted y x q.val).mono fun e w' (h : e = .returned (.int .i64 (lsZ y x)) ∧ GW q.val w') => (⟨h.1, h.2.below⟩ : e = .returned (.int .i64 (lsZ y x)) ∧ Below q.val.heap.size q.val w')
                  unfold rcV at hcL
                  generalize lsZ y x = Z at *
                  have hzz : decide ((0 : Int) ≤ Z) = false := decide_eq_false (by have := hz.out; omega)
                  refine wp_region_bw V2 (Below.refl _ _) (by kernel_rfl) (by kernel_rfl) ?_
                  repeat (go_big_quiet_step ((go_at_call 51; exact bw_call (hcL _))))
                  refine wpQuiet_nil ?_
                  intro V3 hV3'
                  have hV3 := bthen hV2 hV3'
                  clear r0 r1 z0 z1 z2 z3 z4 z5 z6 lB lX hV3' y0 y1 y2 y3 y4 y5 y6
                  go_wp2_with fail
                  go_ret
                  exact ⟨ret_bool HZ.out.symm, bthen HB0.out (HX.out _ (by assumption)).2.2.2.2⟩
                · have HZ := hide (HYes.out (by rw [HO.out]; rw [if_pos H2.out, decide_eq_true h1, show decide (y.at_ ≤ x.at_) = true from decide_eq_true (by omega)]; rfl))
                  clear HNo HYes HO
                  have d4 : decide (x.at_ < y.at_) = false := decide_eq_false h4
                  clear h1
                  go_wp2_with fail
                  clear c0 c1 c2 c3 c4 c5 c6 lX2
                  obtain ⟨gB, hsl, gX, hRL, -⟩ := HX.out V2 hV2
                  obtain ⟨r0, r1⟩ := gB.bw2
                  obtain ⟨z0, z1, z2, z3, z4, z5, z6⟩ := gX.bwR
                  obtain ⟨y0, y1, y2, y3, y4, y5, y6⟩ := hsl.bwR (k := k - 1) hk1
                  rw [hkY] at y0 y1 y2 y3 y4 y5 y6
                  have lB := gB.lt
                  have lX := gX.lt
                  clear gB hsl gX hRL
                  have hcL := fun q : BW V2 => (c_plisted y x q.val).mono fun e w' (h : e = .returned (.int .i64 (lsZ y x)) ∧ GW q.val w') => (⟨h.1, h.2.below⟩ : e = .returned (.int .i64 (lsZ y x)) ∧ Below q.val.heap.size q.val w')
                  unfold rcV at hcL
                  generalize lsZ y x = Z at *
                  have hzz : decide ((0 : Int) ≤ Z) = false := decide_eq_false (by have := hz.out; omega)
                  refine wp_region_bw V2 (Below.refl _ _) (by kernel_rfl) (by kernel_rfl) ?_
                  repeat (go_big_quiet_step ((go_at_call 51; exact bw_call (hcL _))))
                  refine wpQuiet_nil ?_
                  intro V3 hV3'
                  have hV3 := bthen hV2 hV3'
                  clear r0 r1 z0 z1 z2 z3 z4 z5 z6 lB lX hV3' y0 y1 y2 y3 y4 y5 y6
                  go_wp2_with fail
                  go_roundw
                  case rel => exact ⟨k + 1, by omega, by go_num, HZ, (HX.out _ hV3).2.2.2.2⟩
                  case measure => simp [intOf]; omega
              · have HZ : Hid (vrB p l = false) := hide (HNo.out (by rw [HO.out]; rw [if_pos H2.out, decide_eq_false h1]; rfl))
                clear HNo HYes HO
                have d1 : (x.num != y.num + 1) = true := by simp [h1]
                clear h1
                go_wp2_with fail
                clear c0 c1 c2 c3 c4 c5 c6 lX2
                obtain ⟨gB, hsl, gX, hRL, -⟩ := HX.out V2 hV2
                obtain ⟨r0, r1⟩ := gB.bw2
                obtain ⟨z0, z1, z2, z3, z4, z5, z6⟩ := gX.bwR
                obtain ⟨y0, y1, y2, y3, y4, y5, y6⟩ := hsl.bwR (k := k - 1) hk1
                rw [hkY] at y0 y1 y2 y3 y4 y5 y6
                have lB := gB.lt
                have lX := gX.lt
                clear gB hsl gX hRL
                have hcL := fun q : BW V2 => (c_plisted y x q.val).mono fun e w' (h : e = .returned (.int .i64 (lsZ y x)) ∧ GW q.val w') => (⟨h.1, h.2.below⟩ : e = .returned (.int .i64 (lsZ y x)) ∧ Below q.val.heap.size q.val w')
                unfold rcV at hcL
                generalize lsZ y x = Z at *
                have hzz : decide ((0 : Int) ≤ Z) = false := decide_eq_false (by have := hz.out; omega)
                refine wp_region_bw V2 (Below.refl _ _) (by kernel_rfl) (by kernel_rfl) ?_
                repeat (go_big_quiet_step ((go_at_call 51; exact bw_call (hcL _))))
                refine wpQuiet_nil ?_
                intro V3 hV3'
                have hV3 := bthen hV2 hV3'
                clear r0 r1 z0 z1 z2 z3 z4 z5 z6 lB lX hV3' y0 y1 y2 y3 y4 y5 y6
                go_wp2_with fail
                go_ret
                exact ⟨ret_bool HZ.out.symm, bthen HB0.out (HX.out _ (by assumption)).2.2.2.2⟩
          · have d2 : (y.pen != x.pen) = true := by simp; exact fun e => h2 e.symm
            obtain ⟨gB, hsl, gX, hRL, -⟩ := HX.out W0 hW0
            obtain ⟨r0, r1⟩ := gB.bw2
            obtain ⟨z0, z1, z2, z3, z4, z5, z6⟩ := gX.bwR
            obtain ⟨y0, y1, y2, y3, y4, y5, y6⟩ := hsl.bwR (k := k - 1) hk1
            rw [hkY] at y0 y1 y2 y3 y4 y5 y6
            have lB := gB.lt
            have lX := gX.lt
            clear gB hsl gX hRL
            go_wp2_with fail
            refine wp_region_bw W0 (Below.refl _ _) (by kernel_rfl) (by kernel_rfl) ?_
            repeat (go_big_quiet_step (fail))
            refine wpQuiet_nil ?_
            intro V1 hV1'
            have hV1 := bthen hW0 hV1'
            clear r0 r1 z0 z1 z2 z3 z4 z5 z6 lB lX hV1' y0 y1 y2 y3 y4 y5 y6
            obtain ⟨gB, hsl, gX, hRL, -⟩ := HX.out V1 hV1
            obtain ⟨c0, c1, c2, c3, c4, c5, c6⟩ := gX.allR
            have hcf := c_pformed x V1 hRL
            rw [hfx] at hcf
            unfold rcV at hcf
            have lX := gX.lt
            have HX2 := hide (gX)
            clear gB hsl gX hRL
            go_wp2_with fail
            clear c0 c1 c2 c3 c4 c5 c6 lX
            refine hcf.mono ?_
            clear hcf
            rintro e V2 ⟨rfl, hV2'⟩
            have hV2 := bthen hV1 hV2'
            obtain ⟨c0, c1, c2, c3, c4, c5, c6⟩ := (HX2.out.below hV2' HX2.out.lt).allR
            have lX2 := (HX2.out.below hV2' HX2.out.lt).lt
            clear hV1 hV2' HX2
            by_cases h1 : x.num = 1
            · have d1 : (x.num != 1) = false := by simp [h1]
              cases h3 : lsB y x with
              | true =>
                have HZ := hide (HYes.out (by rw [HO.out]; rw [if_neg h2, decide_eq_true h1, h3]; rfl))
                clear HNo HYes HO
                have hz := hide (lsZ_neg.2 h3)
                clear h1 h2 h3
                go_wp2_with fail
                clear c0 c1 c2 c3 c4 c5 c6 lX2
                obtain ⟨gB, hsl, gX, hRL, -⟩ := HX.out V2 hV2
                obtain ⟨r0, r1⟩ := gB.bw2
                obtain ⟨z0, z1, z2, z3, z4, z5, z6⟩ := gX.bwR
                obtain ⟨y0, y1, y2, y3, y4, y5, y6⟩ := hsl.bwR (k := k - 1) hk1
                rw [hkY] at y0 y1 y2 y3 y4 y5 y6
                have lB := gB.lt
                have lX := gX.lt
                clear gB hsl gX hRL
                have hcL := fun q : BW V2 => (c_plisted y x q.val).mono fun e w' (h : e = .returned (.int .i64 (lsZ y x)) ∧ GW q.val w') => (⟨h.1, h.2.below⟩ : e = .returned (.int .i64 (lsZ y x)) ∧ Below q.val.heap.size q.val w')
                unfold rcV at hcL
                generalize lsZ y x = Z at *
                have hzz : decide ((0 : Int) ≤ Z) = false := decide_eq_false (by have := hz.out; omega)
                refine wp_region_bw V2 (Below.refl _ _) (by kernel_rfl) (by kernel_rfl) ?_
                repeat (go_big_quiet_step ((go_at_call 51; exact bw_call (hcL _))))
                refine wpQuiet_nil ?_
                intro V3 hV3'
                have hV3 := bthen hV2 hV3'
                clear r0 r1 z0 z1 z2 z3 z4 z5 z6 lB lX hV3' y0 y1 y2 y3 y4 y5 y6
                go_wp2_with fail
                go_roundw
                case rel => exact ⟨k + 1, by omega, by go_num, HZ, (HX.out _ hV3).2.2.2.2⟩
                case measure => simp [intOf]; omega
              | false =>
                have HZ : Hid (vrB p l = false) := hide (HNo.out (by rw [HO.out]; rw [if_neg h2, decide_eq_true h1, h3]; rfl))
                clear HNo HYes HO
                have hz := hide (show ¬ lsZ y x < 0 from fun h => by rw [lsZ_neg.1 h] at h3; cases h3)
                clear h1 h2 h3
                go_wp2_with fail
                clear c0 c1 c2 c3 c4 c5 c6 lX2
                obtain ⟨gB, hsl, gX, hRL, -⟩ := HX.out V2 hV2
                obtain ⟨r0, r1⟩ := gB.bw2
                obtain ⟨z0, z1, z2, z3, z4, z5, z6⟩ := gX.bwR
                obtain ⟨y0, y1, y2, y3, y4, y5, y6⟩ := hsl.bwR (k := k - 1) hk1
                rw [hkY] at y0 y1 y2 y3 y4 y5 y6
                have lB := gB.lt
                have lX := gX.lt
                clear gB hsl gX hRL
                have hcL := fun q : BW V2 => (c_plisted y x q.val).mono fun e w' (h : e = .returned (.int .i64 (lsZ y x)) ∧ GW q.val w') => (⟨h.1, h.2.below⟩ : e = .returned (.int .i64 (lsZ y x)) ∧ Below q.val.heap.size q.val w')
                unfold rcV at hcL
                generalize lsZ y x = Z at *
                have hzz : decide ((0 : Int) ≤ Z) = true := decide_eq_true (by have := hz.out; omega)
                refine wp_region_bw V2 (Below.refl _ _) (by kernel_rfl) (by kernel_rfl) ?_
                repeat (go_big_quiet_step ((go_at_call 51; exact bw_call (hcL _))))
                refine wpQuiet_nil ?_
                intro V3 hV3'
                have hV3 := bthen hV2 hV3'
                clear r0 r1 z0 z1 z2 z3 z4 z5 z6 lB lX hV3' y0 y1 y2 y3 y4 y5 y6
                go_wp2_with fail
                go_ret
                exact ⟨ret_bool HZ.out.symm, bthen HB0.out (HX.out _ (by assumption)).2.2.2.2⟩
            · have HZ : Hid (vrB p l = false) := hide (HNo.out (by rw [HO.out]; rw [if_neg h2, decide_eq_false h1]; rfl))
              clear HNo HYes HO
              have d1 : (x.num != 1) = true := by simp [h1]
              clear h1 h2
              go_wp2_with fail
              go_ret
              exact ⟨ret_bool HZ.out.symm, bthen HB0.out (HX.out _ (by assumption)).2.2.2.2⟩
    · have hOK : ∀ j, j < l.length → okI l j = true := fun j hj => HI.out j (by have := HL.out; omega)
      have HZ : Hid (vrB p l = !(l.any (fun x => !soF l x))) := hide (HVr.out hOK)
      have hb01 := bthen HB0.out hb
      obtain ⟨r0, r1⟩ := (HG0.out.1.below hb hlt1).two
      have hlr := (HG0.out.1.below hb hlt1).lt
      have hcb := c_pbooked A N c l wr (nd_of_ok hOK) hN (HG0.out.2.to' hb)
      have HH := hide (And.intro (HG0.out.1.below hb hlt1) (And.intro (HG0.out.2.to' hb) (And.intro ((HR.out.to' HB0.out).to' hb) hb01)))
      clear HI hOK hb hb01 HVr HV
      go_wp2_with (go_at_call 52; refine hcb.mono ?_; clear hcb; rintro e w2 ⟨b, rfl, hbb, hbk, hb2⟩; obtain ⟨q0, q1⟩ := (HH.out.1.below hb2 hlr).two; have hlr2 := (HH.out.1.below hb2 hlr).lt; have hbl := hbk.lt; have HH2 := hide (And.intro (HH.out.1.below hb2 hlr) (And.intro (HH.out.2.1.to' hb2) (And.intro (HH.out.2.2.1.to' hb2) (And.intro hbk (bthen HH.out.2.2.2 hb2))))); clear hbk hb2 r0 r1)
      have hA := balloc (Below.refl w2.heap.size w2) (.cells #[.func (.func 53) #[.map (some b)] #[]] 77)
      have gF := Blk.new w2 77 [.func (.func 53) #[.map (some b)] #[]]
      have hcc := c_sContains (fun x => !soF l x) 55 #[.pointer (some ⟨w2.heap.size, 0, none⟩)] (enters_of Tryz.func55 (by kernel_rfl) rfl) A N c l (w2.alloc (.cells #[.func (.func 53) #[.map (some b)] #[]] 77)) hN
        (fun W s hW => (c_pValidC1 b w2.heap.size l s W ((gF.below hW gF.lt).cell 0) ((HH2.out.2.2.2.1.to hA).to hW) ((HH2.out.2.2.1.to' hA).to' hW)).mono fun e w' h => ⟨h.1, bthen hW h.2⟩) (HH2.out.2.1.to' hA)
      have HA := hide (bthen HH2.out.2.2.2.2 hA)
      generalize l.any (fun x => !soF l x) = an at *
      clear hA gF
      go_wp2_with (go_at_call 54; refine hcc.mono ?_; clear hcc; rintro e w3 ⟨rfl, hb3⟩)
      go_ret
      exact ⟨ret_bool (by rw [HZ.out]), bthen HA.out hb3⟩
end Go.Proofs.YtcfbgelhggapjaaGreatDoor
/- Replica: the package's checked, New, put. -/
namespace Go.Proofs.YtcfbgelhggapjaaGreatDoor
open Go.RowKit Go.Shelf
def ckV (p : Int) (A : Option Addr) (N c : Nat) (b : Bool) : Value := if b then .tuple #[.agg #[.int .i64 p, .slice A N c], .int .i64 0] else .tuple #[.agg #[.int .i64 0, .slice none 0 0], .int .i64 350]
set_option maxRecDepth 100000 in
set_option maxHeartbeats 4000000 in
theorem c_pchecked (p : Int) (A : Option Addr) (N c : Nat) (l : List Rc) (w : World) (hR : RL w) (hr : SlR w w.heap.size 7 A N (l.flatMap cR)) (hN : N ≤ 9223372036854775807) :
    Calls Tryz.prog 62 #[.agg #[.int .i64 p, .slice A N c]] w fun e w' => e = .returned (ckV p A N c (vrB p l)) ∧ Below w.heap.size w w' := by
  have hb0 := balloc (balloc (Below.refl w.heap.size w) (.cells #[.int .i64 p, .slice A N c] 25)) (.cells #[.int .i64 0, .slice none 0 0] 25)
  have gZ : Blk ((w.alloc (.cells #[.int .i64 p, .slice A N c] 25)).alloc (.cells #[.int .i64 0, .slice none 0 0] 25)) (w.heap.size + 1) 25 [.int .i64 0, .slice none 0 0] := by
    have := Blk.new (w.alloc (.cells #[.int .i64 p, .slice A N c] 25)) 25 [.int .i64 0, .slice none 0 0]
    rw [show (w.alloc (.cells #[.int .i64 p, .slice A N c] 25)).heap.size = w.heap.size + 1 from by simp] at this
    exact this
  have gR := (Blk.new w 25 [.int .i64 p, .slice A N c]).alloc (.cells #[.int .i64 0, .slice none 0 0] 25)
  have hk := c_pValid p A N c l _ (hR.to' hb0) (hr.to' hb0) hN
  have HZ := hide (And.intro gR (And.intro gZ hb0))
  clear hr gZ gR hb0 hR
  unfold rpV at hk
  generalize vrB p l = V at *
  go_enter Tryz.func62, Tryz.ntmps62
  go_wp2_with fail
  refine hk.mono ?_
  clear hk
  rintro e w1 ⟨rfl, hb1⟩
  obtain ⟨r0, r1⟩ := (HZ.out.1.below hb1 HZ.out.1.lt).two
  obtain ⟨z0, z1, z2, z3⟩ := (HZ.out.2.1.below hb1 HZ.out.2.1.lt).all2
  have hz := (HZ.out.2.1.below hb1 HZ.out.2.1.lt).lt
  have HB := hide (bthen HZ.out.2.2 hb1)
  clear hb1 HZ
  cases V with
  | false =>
    go_wp2
    exact bodyPost_ret (v := .tuple #[.agg #[.int .i64 0, .slice none 0 0], .int .i64 350]) (by simp [results, Tryz.results62, go_sem, z0, z1]) rfl ⟨rfl, (HB.out.setCell (by simp) _).setCell (by simp) _⟩
  | true =>
    go_wp2
    exact bodyPost_ret (v := .tuple #[.agg #[.int .i64 p, .slice A N c], .int .i64 0]) (by simp [results, Tryz.results62, go_sem, z0, z1]) rfl ⟨rfl, (HB.out.setCell (by simp) _).setCell (by simp) _⟩
theorem vr_nil (p : Int) : vrB p [] = inB p 0 39 := by
  have h := vl_iff.2 vl_nil
  unfold vrB
  rw [h]
  simp
set_option maxRecDepth 100000 in
set_option maxHeartbeats 4000000 in
theorem c_pNew (p : Int) (w : World) (hR : RL w) : Calls Tryz.prog 33 #[.int .i64 p] w (RepPost p (newM p) w) := by
  have hb0 := balloc (Below.refl w.heap.size w) (.cells #[.int .i64 0, .slice none 0 0] 25)
  have gZ := Blk.new w 25 [.int .i64 0, .slice none 0 0]
  have hk := c_pchecked p none 0 0 [] _ (hR.to' hb0) SlR.nil (by decide)
  rw [vr_nil] at hk
  have HZ := hide (And.intro gZ hb0)
  clear gZ hb0 hR
  unfold newM
  cases hp : inB p 0 39 with
  | false =>
    rw [hp] at hk
    unfold ckV at hk
    simp only [Bool.false_eq_true, if_false] at hk ⊢
    go_enter Tryz.func33, Tryz.ntmps33
    go_wp2_with (go_at_call 62; refine hk.mono ?_; clear hk; rintro e w1 ⟨rfl, hb1⟩; obtain ⟨z0, z1, z2, z3⟩ := (HZ.out.1.below hb1 HZ.out.1.lt).all2; have hz := (HZ.out.1.below hb1 HZ.out.1.lt).lt; have HB := hide (bthen HZ.out.2 hb1); clear hb1)
    exact bodyPost_ret (v := .tuple #[.agg #[.int .i64 0, .slice none 0 0], .int .i64 350]) (by simp [results, Tryz.results33, go_sem, z0, z1]) rfl ⟨(HB.out.setCell (by simp) _).setCell (by simp) _, .inl ⟨rfl, rfl⟩⟩
  | true =>
    rw [hp] at hk
    unfold ckV at hk
    simp only [if_true] at hk ⊢
    go_enter Tryz.func33, Tryz.ntmps33
    go_wp2_with (go_at_call 62; refine hk.mono ?_; clear hk; rintro e w1 ⟨rfl, hb1⟩; obtain ⟨z0, z1, z2, z3⟩ := (HZ.out.1.below hb1 HZ.out.1.lt).all2; have hz := (HZ.out.1.below hb1 HZ.out.1.lt).lt; have HB := hide (bthen HZ.out.2 hb1); clear hb1)
    exact bodyPost_ret (v := .tuple #[.agg #[.int .i64 p, .slice none 0 0], .int .i64 0]) (by simp [results, Tryz.results33, go_sem, z0, z1]) rfl ⟨(HB.out.setCell (by simp) _).setCell (by simp) _, .inr ⟨[], none, 0, rfl, rfl, Nat.le_refl _, by decide, SlN.nil⟩⟩
theorem cntP_snoc (p : Int) (l : List Rc) (k : Nat) (hk : k < l.length) : cntP p (l.take (k + 1)) = if l[k].pen = p then cntP p (l.take k) + 1 else cntP p (l.take k) := by
  unfold cntP
  rw [List.take_succ_eq_append_getElem hk, List.countP_append]
  by_cases h : l[k].pen = p <;> simp [h]
end Go.Proofs.YtcfbgelhggapjaaGreatDoor
/- Replica: the package's put. -/
namespace Go.Proofs.YtcfbgelhggapjaaGreatDoor
open Go.RowKit Go.Shelf
theorem cell_set2 (W : World) (a : Addr) (b : Nat) (u v : Value) (h : a.block ≠ b) : ((W.setCell ⟨b, 0, none⟩ u).setCell ⟨b, 1, none⟩ v).cell? a = W.cell? a := by
  rw [cell_same (Below.heap_setCell _ ⟨b, 1, none⟩ v a.block h), cell_same (Below.heap_setCell _ ⟨b, 0, none⟩ u a.block h)]
set_option linter.unusedSimpArgs false in
set_option maxRecDepth 100000 in
set_option maxHeartbeats 8000000 in
theorem c_pput (p : Int) (A : Option Addr) (N c : Nat) (l : List Rc) (x : Rc) (w : World) (hR : RL w) (hnc : N ≤ c) (hc : c ≤ 9223372036854775807) (hr : SlR w w.heap.size 7 A N (l.flatMap cR)) :
    Calls Tryz.prog 57 #[rpV p A N c, rcV x] w (RepPost p (addM p l x) w) := by
  have hb0 := balloc (balloc (balloc (Below.refl w.heap.size w) (.cells #[.int .i64 p, .slice A N c] 25)) (.cells #[.int .i64 x.pen, .int .i64 x.num, .int .i64 x.at_, .int .i64 x.of, .int .i64 x.which, .int .i64 x.kind, .string x.text] 49)) (.cells #[.int .i64 0, .slice none 0 0] 25)
  obtain ⟨w0, hw0⟩ : ∃ w0, ((w.alloc (.cells #[.int .i64 p, .slice A N c] 25)).alloc (.cells #[.int .i64 x.pen, .int .i64 x.num, .int .i64 x.at_, .int .i64 x.of, .int .i64 x.which, .int .i64 x.kind, .string x.text] 49)).alloc (.cells #[.int .i64 0, .slice none 0 0] 25) = w0 := ⟨_, rfl⟩
  have gR : Blk w0 w.heap.size 25 [.int .i64 p, .slice A N c] := by rw [← hw0]; exact ((Blk.new w 25 [.int .i64 p, .slice A N c]).alloc _).alloc _
  have gX : Blk w0 (w.heap.size + 1) 49 (cR x) := by
    rw [← hw0]
    have := Blk.new (w.alloc (.cells #[.int .i64 p, .slice A N c] 25)) 49 (cR x)
    rw [show (w.alloc (.cells #[.int .i64 p, .slice A N c] 25)).heap.size = w.heap.size + 1 from by simp] at this
    exact this.alloc _
  have gZ : Blk w0 (w.heap.size + 1 + 1) 25 [.int .i64 0, .slice none 0 0] := by
    rw [← hw0]
    have := Blk.new ((w.alloc (.cells #[.int .i64 p, .slice A N c] 25)).alloc (.cells #[.int .i64 x.pen, .int .i64 x.num, .int .i64 x.at_, .int .i64 x.of, .int .i64 x.which, .int .i64 x.kind, .string x.text] 49)) 25 [.int .i64 0, .slice none 0 0]
    rw [show ((w.alloc (.cells #[.int .i64 p, .slice A N c] 25)).alloc (.cells #[.int .i64 x.pen, .int .i64 x.num, .int .i64 x.at_, .int .i64 x.of, .int .i64 x.which, .int .i64 x.kind, .string x.text] 49)).heap.size = w.heap.size + 1 + 1 from by simp] at this
    exact this
  rw [hw0] at hb0
  have HW0 := hide hw0
  have HL := hide hr.lenR
  have hk0 := c_pValid p A N c l w0 (hR.to' hb0) (hr.to' hb0) (by omega)
  have HR : Hid (∀ W, Below w.heap.size w W → SlR W W.heap.size 7 A N (l.flatMap cR) ∧ RL W) := hide (fun W h => ⟨hr.to' h, hR.to' h⟩)
  have hzR := gZ.lt
  have HG := hide (And.intro gR (And.intro gX gZ))
  clear hr hw0 gX gR gZ hR
  unfold rpV rcV
  unfold rpV at hk0
  go_enter Tryz.func57, Tryz.ntmps57
  go_wp2_with fail
  rw [HW0.out]
  refine hk0.mono ?_
  clear hk0
  rintro e w1 ⟨rfl, hb1⟩
  obtain ⟨r0, r1, _, _⟩ := (HG.out.1.below hb1 HG.out.1.lt).all2
  obtain ⟨z0, z1, z2, z3⟩ := (HG.out.2.2.below hb1 HG.out.2.2.lt).all2
  have hz1 := (HG.out.2.2.below hb1 HG.out.2.2.lt).lt
  cases hV : vrB p l with
  | false =>
    have HE := hide (show addM p l x = none by unfold addM; rw [hV]; rfl)
    clear hV
    go_wp2
    exact bodyPost_ret (v := .tuple #[.agg #[.int .i64 0, .slice none 0 0], .int .i64 350]) (by simp [results, Tryz.results57, go_sem, z0, z1]) rfl ⟨((bthen hb0 hb1).setCell (by simp; omega) _).setCell (by simp; omega) _, .inl ⟨HE.out, rfl⟩⟩
  | true =>
    have HVL := hide (vr_iff.1 hV).2.2
    have hl150 := (vr_iff.1 hV).2.1
    have HE := hide (show addM p l x = if vrB p (putL l (newx p l x)) then some (putL l (newx p l x)) else none by unfold addM; rw [hV]; rfl)
    clear hV
    have hN150 : N ≤ 150 := by have := HL.out; omega
    have hxc := (HG.out.2.1.below hb1 HG.out.2.1.lt)
    obtain ⟨x0, x1, x2, x3, x4, x5, x6⟩ := hxc.allR
    obtain ⟨xf0, xf1⟩ := hxc.frR
    have H1 := hide (And.intro (HG.out.1.below hb1 HG.out.1.lt) (And.intro hxc (And.intro (HG.out.2.2.below hb1 HG.out.2.2.lt) (bthen hb0 hb1))))
    clear hxc hb0 hb1 hzR HG HW0 z0 z1 z2 z3
    go_wp2_with fail
    go_loopw [19] (fun i wr => ∃ k : Nat, k ≤ N ∧ i = .int .i64 k ∧ Blk wr w.heap.size 25 [.int .i64 p, .slice A N c] ∧ Blk wr (w.heap.size + 1) 49 (cR { x with pen := p, num := (cntP p (l.take k) : Int) + 1 }) ∧ Blk wr (w.heap.size + 1 + 1) 25 [.int .i64 0, .slice none 0 0] ∧ Below w.heap.size w wr) (fun i _ => N - (intOf i).toNat)
    case atStart =>
      obtain ⟨q1, q2, q3, q4⟩ := H1.out
      exact ⟨0, Nat.zero_le _, rfl, (q1.other (by simp) _).other (by simp) _, (q2.set 0 (.int .i64 p)).set 1 (.int .i64 1), (q3.other (by simp) _).other (by simp) _, bset (bset q4 (by simp) _) (by simp) _⟩
    case round =>
      clear H1 r0 r1 x0 x1 x2 x3 x4 x5 x6 xf0 xf1 hz1
      obtain ⟨k, hk, rfl, gR, gX, gZ, hb⟩ := hrel
      obtain ⟨r0, r1, _, _⟩ := gR.all2
      have hgl := gZ.lt
      have hcb : cntP p (l.take k) ≤ 150 := Nat.le_trans (cntP_le p _) (by rw [List.length_take]; omega)
      have H1 := hide (And.intro gR (And.intro gX (And.intro gZ hb)))
      by_cases hlt : k < N
      · have hkl : k < l.length := by have := HL.out; omega
        obtain ⟨hsl, hRL⟩ := HR.out wr hb
        obtain ⟨b, off, rfl, hbb⟩ := hsl.some_of (by omega)
        obtain ⟨hbb', y0, y1, y2, y3, y4, y5, y6⟩ := hsl.cellsR (Below.refl _ _) hkl
        obtain ⟨x0, x1, x2, x3, x4, x5, x6⟩ := gX.allR
        obtain ⟨xf0, xf1⟩ := gX.frR
        have HS := hide (cntP_snoc p l k hkl)
        have hji : (k : Int) < (N : Int) := by omega
        have hg1 : w.heap.size < wr.heap.size := by omega
        have hg2 : w.heap.size + 1 < wr.heap.size := by omega
        dsimp only at x0 x1 x2 x3 x4 x5 x6
        clear gR gX gZ hb hsl hRL
        generalize l[k] = y at *
        generalize cntP p (l.take k) = q at *
        by_cases hq : y.pen = p
        · have hd : (y.pen == p) = true := by simpa using hq
          have HZ := hide (show cntP p (l.take (k + 1)) = q + 1 by rw [HS.out, if_pos hq])
          clear hq HS
          go_wp2_with fail
          go_roundw
          case rel =>
            obtain ⟨q1, q2, q3, q4⟩ := H1.out
            refine ⟨k + 1, by omega, by go_num, (q1.other (by simp) _).alloc _, ?_, (q3.other (by simp) _).alloc _, balloc (bset q4 (by simp) _) _⟩
            rw [HZ.out]
            have h := (q2.set 1 (.int .i64 ((q : Int) + 1 + 1))).alloc (.cells #[.int .i64 y.pen, .int .i64 y.num, .int .i64 y.at_, .int .i64 y.of, .int .i64 y.which, .int .i64 y.kind, .string y.text] 49)
            simpa [cR] using h
          case measure => simp [intOf]; omega
        · have hd : (y.pen == p) = false := by simpa using hq
          have HZ := hide (show cntP p (l.take (k + 1)) = q by rw [HS.out, if_neg hq])
          clear hq HS
          go_wp2_with fail
          go_roundw
          case rel =>
            obtain ⟨q1, q2, q3, q4⟩ := H1.out
            exact ⟨k + 1, by omega, by go_num, q1.alloc _, by rw [HZ.out]; exact q2.alloc _, q3.alloc _, balloc q4 _⟩
          case measure => simp [intOf]; omega
      · have hkN : k = N := by omega
        have hnl : decide (k < N) = false := decide_eq_false hlt
        have hnl2 : ¬ (k : Int) < (N : Int) := by omega
        have HX : Hid (({ x with pen := p, num := (cntP p (l.take k) : Int) + 1 } : Rc) = newx p l x) := hide (by rw [hkN, ← HL.out, List.take_length]; rfl)
        obtain ⟨hsl, hRL⟩ := HR.out wr hb
        have H2 : Hid (∀ W, Below wr.heap.size wr W → (W.cell? ⟨w.heap.size, 0, none⟩ = some (.int .i64 p) ∧ W.cell? ⟨w.heap.size, 1, none⟩ = some (.slice A N c) ∧ W.cell? ⟨w.heap.size + 1, 0, none⟩ = some (.int .i64 p) ∧ W.cell? ⟨w.heap.size + 1, 1, none⟩ = some (.int .i64 ((cntP p (l.take k) : Int) + 1)) ∧ W.cell? ⟨w.heap.size + 1, 2, none⟩ = some (.int .i64 x.at_) ∧ W.cell? ⟨w.heap.size + 1, 3, none⟩ = some (.int .i64 x.of) ∧ W.cell? ⟨w.heap.size + 1, 4, none⟩ = some (.int .i64 x.which) ∧ W.cell? ⟨w.heap.size + 1, 5, none⟩ = some (.int .i64 x.kind) ∧ W.cell? ⟨w.heap.size + 1, 6, none⟩ = some (.string x.text))) := hide (fun W h => by
          obtain ⟨q1, q2, q3, q4⟩ := H1.out
          obtain ⟨a0, a1, _, _⟩ := (q1.below h q1.lt).all2
          obtain ⟨b0, b1, b2, b3, b4, b5, b6⟩ := (q2.below h q2.lt).allR
          exact ⟨a0, a1, b0, b1, b2, b3, b4, b5, b6⟩)
        have hx' : Hid (cR ({ x with pen := p, num := (cntP p (l.take k) : Int) + 1 } : Rc) = [.int .i64 p, .int .i64 ((cntP p (l.take k) : Int) + 1), .int .i64 x.at_, .int .i64 x.of, .int .i64 x.which, .int .i64 x.kind, .string x.text]) := hide rfl
        have HCp : Hid (∀ s : List Rc, s.Perm (l ++ [newx p l x]) → s.Pairwise (fun a b => lsB b a = false) → cpL s = putL l (newx p l x)) := hide (fun s h1 h2 => cp_put HVL.out (HVL.out.free p) h1 h2)
        have HlN : Hid ((putL l (newx p l x)).length = N + 1) := hide (by rw [len_putL]; have := HL.out; omega)
        clear gR gX gZ hb hsl hRL hlt hkN hk
        rw [HX.out] at hx'
        generalize (cntP p (l.take k) : Int) + 1 = q at *
        go_upto_region 10 with (fail)
        refine wp_region_held_drew (S := fun W => W.cell? ⟨w.heap.size, 0, none⟩ = some (.int .i64 p) ∧ W.cell? ⟨w.heap.size, 1, none⟩ = some (.slice A N c) ∧ W.cell? ⟨w.heap.size + 1, 0, none⟩ = some (.int .i64 p) ∧ W.cell? ⟨w.heap.size + 1, 1, none⟩ = some (.int .i64 q) ∧ W.cell? ⟨w.heap.size + 1, 2, none⟩ = some (.int .i64 x.at_) ∧ W.cell? ⟨w.heap.size + 1, 3, none⟩ = some (.int .i64 x.of) ∧ W.cell? ⟨w.heap.size + 1, 4, none⟩ = some (.int .i64 x.which) ∧ W.cell? ⟨w.heap.size + 1, 5, none⟩ = some (.int .i64 x.kind) ∧ W.cell? ⟨w.heap.size + 1, 6, none⟩ = some (.string x.text)) (by kernel_rfl) (H2.out _ (bdrew (Below.refl _ _))) (fun hHeld => ?_)
        refine wpAnyH_take (i := 0) (v := ?_) rfl (by kernel_rfl) (by kernel_rfl) (by kernel_rfl) (fun _ _ _ h => h) (Or.inl ⟨by rfl, ?hy1⟩) (by assumption) ?rs1
        case hy1 => (intro w hSw; (try dsimp only at hSw); go_simp; try (with_reducible rfl))
        (try simp only [Act.put, List.setIfInBounds_toArray, List.set_cons_zero, List.set_cons_succ, List.getElem_toArray, List.getElem_cons_zero, List.getElem_cons_succ])
        refine wpAnyH_take (i := 1) (v := ?_) rfl (by kernel_rfl) (by kernel_rfl) (by kernel_rfl) (fun _ _ _ h => h) (Or.inl ⟨by rfl, ?hy2⟩) (by assumption) ?rs2
        case hy2 => (intro w hSw; (try dsimp only at hSw); go_simp; try (with_reducible rfl))
        (try simp only [Act.put, List.setIfInBounds_toArray, List.set_cons_zero, List.set_cons_succ, List.getElem_toArray, List.getElem_cons_zero, List.getElem_cons_succ])
        refine wpAnyH_take (i := 2) (v := ?_) rfl (by kernel_rfl) (by kernel_rfl) (by kernel_rfl) (fun _ _ _ h => h) (Or.inl ⟨by rfl, ?hy3⟩) (by assumption) ?rs3
        case hy3 => (intro w hSw; (try dsimp only at hSw); go_simp; try (with_reducible rfl))
        (try simp only [Act.put, List.setIfInBounds_toArray, List.set_cons_zero, List.set_cons_succ, List.getElem_toArray, List.getElem_cons_zero, List.getElem_cons_succ])
        refine wpAnyH_take (i := 3) (v := ?_) rfl (by kernel_rfl) (by kernel_rfl) (by kernel_rfl) (fun _ _ _ h => h) (Or.inl ⟨by rfl, ?hy4⟩) (by assumption) ?rs4
        case hy4 => (intro w hSw; (try dsimp only at hSw); go_simp; try (with_reducible rfl))
        (try simp only [Act.put, List.setIfInBounds_toArray, List.set_cons_zero, List.set_cons_succ, List.getElem_toArray, List.getElem_cons_zero, List.getElem_cons_succ])
        refine wpAnyH_take (i := 4) (v := ?_) rfl (by kernel_rfl) (by kernel_rfl) (by kernel_rfl) (fun _ _ _ h => h) (Or.inl ⟨by rfl, ?hy5⟩) (by assumption) ?rs5
        case hy5 => (intro w hSw; (try dsimp only at hSw); go_simp; try (with_reducible rfl))
        (try simp only [Act.put, List.setIfInBounds_toArray, List.set_cons_zero, List.set_cons_succ, List.getElem_toArray, List.getElem_cons_zero, List.getElem_cons_succ])
        refine wpAnyH_ready (rs := [5]) (by kernel_rfl) (by simp) ?_
        refine AllReadyH.cons rfl (fun K hK => ?_) ?_
        · go_simp
          refine hK.out _ _ (by exact (H2.out _ (balloc (bdrew (Below.refl _ _)) _))) (fun hHeld => ?_)
          clear hK K
          (try simp only [Act.put, List.setIfInBounds_toArray, List.set_cons_zero, List.set_cons_succ, List.getElem_toArray, List.getElem_cons_zero, List.getElem_cons_succ])
          have hA := balloc (bdrew (Below.refl wr.heap.size wr)) (.cells #[.int .i64 p, .int .i64 q, .int .i64 x.at_, .int .i64 x.of, .int .i64 x.which, .int .i64 x.kind, .string x.text] 49)
          have gN := Blk.new wr.drew 49 [.int .i64 p, .int .i64 q, .int .i64 x.at_, .int .i64 x.of, .int .i64 x.which, .int .i64 x.kind, .string x.text]
          rw [← hx'.out] at gN
          have hsl1 : SlR (wr.drew.alloc (.cells (cR (newx p l x)).toArray 49)) (wr.drew.alloc (.cells (cR (newx p l x)).toArray 49)).heap.size 7 (some ⟨wr.drew.heap.size, 0, none⟩) 1 ([newx p l x].flatMap cR) := by
            have := gN.slr (k := 7) (n := 1) (by rfl)
            simpa using this
          rw [hx'.out] at hsl1
          have hmg := c_pmerged A (some ⟨wr.drew.heap.size, 0, none⟩) N c 1 1 l [newx p l x] _ (by omega) (by omega) (HR.out _ (bthen H1.out.2.2.2 hA)).1 hsl1
          have HA := hide hA
          clear hA gN hsl1
          refine wpAnyH_ready (rs := [6]) (by kernel_rfl) (by simp) ?_
          refine AllReadyH.cons rfl (fun K hK => ?_) ?_
          · go_simp
            refine hmg.mono ?_
            clear hmg
            rintro e w4 ⟨v4, s, rfl, hp, hs, hown, hb4⟩
            obtain ⟨A4, c4, rfl, h41, h42, -⟩ := SlR.of_own hown
            have hcs := HCp.out s hp hs
            rw [hcs] at hown h41 ⊢
            have HO := hide (And.intro hown (bthen HA.out hb4))
            clear hown hb4 hp hs hcs
            refine hK.out _ _ (by exact (H2.out _ HO.out.2)) (fun hHeld => ?_)
            clear hK K
            (try simp only [Act.put, List.setIfInBounds_toArray, List.set_cons_zero, List.set_cons_succ, List.getElem_toArray, List.getElem_cons_zero, List.getElem_cons_succ])
            refine wpAnyH_take (i := 7) (v := ?_) rfl (by kernel_rfl) (by kernel_rfl) (by kernel_rfl) (fun _ _ _ h => h) (Or.inl ⟨by rfl, ?hy6⟩) (by assumption) ?rs6
            case hy6 => (intro w hSw; (try dsimp only at hSw); go_simp; try (with_reducible rfl))
            (try simp only [Act.put, List.setIfInBounds_toArray, List.set_cons_zero, List.set_cons_succ, List.getElem_toArray, List.getElem_cons_zero, List.getElem_cons_succ])
            have hck := c_pchecked p A4 (putL l (newx p l x)).length c4 (putL l (newx p l x)) w4 (HR.out _ (bthen H1.out.2.2.2 HO.out.2)).2 (own_row HO.out.1).2.2 (by unfold maxLen at h42; omega)
            refine wpAnyH_ready (rs := [8]) (by kernel_rfl) (by simp) ?_
            refine AllReadyH.cons rfl (fun K hK => ?_) ?_
            · go_simp
              refine hck.mono ?_
              clear hck
              rintro e w5 ⟨rfl, hb5⟩
              have hb05 := bthen HO.out.2 hb5
              have gZ5 := H1.out.2.2.1.below hb05 H1.out.2.2.1.lt
              obtain ⟨z0, z1, z2, z3⟩ := gZ5.all2
              have hz5 := gZ5.lt
              have H5 := hide (And.intro (own_sln (own_to HO.out.1 hb5)) (And.intro hb05 gZ5))
              clear hb5 hb05 gZ5
              have hwr : w.heap.size + 1 + 1 < wr.heap.size := hgl
              cases hV : vrB p (putL l (newx p l x)) with
              | false =>
                simp only [ckV, Bool.false_eq_true, if_false]
                have HQ := hide (show addM p l x = none by rw [HE.out, hV]; rfl)
                clear hV
                refine hK.out _ _ (by exact (H2.out _ H5.out.2.1)) (fun hHeld => ?_)
                clear hK K
                (try simp only [Act.put, List.setIfInBounds_toArray, List.set_cons_zero, List.set_cons_succ, List.getElem_toArray, List.getElem_cons_zero, List.getElem_cons_succ])
                refine wpAnyH_take (i := 9) (v := ?_) rfl (by kernel_rfl) (by kernel_rfl) (by kernel_rfl) (fun _ _ _ h => h) (Or.inl ⟨by rfl, ?hy7⟩) (by assumption) ?rs7
                case hy7 => (intro w hSw; (try dsimp only at hSw); go_simp; try (with_reducible rfl))
                (try simp only [Act.put, List.setIfInBounds_toArray, List.set_cons_zero, List.set_cons_succ, List.getElem_toArray, List.getElem_cons_zero, List.getElem_cons_succ])
                refine wpAnyH_take (i := 10) (v := ?_) rfl (by kernel_rfl) (by kernel_rfl) (by kernel_rfl) (fun _ _ _ h => h) (Or.inl ⟨by rfl, ?hy8⟩) (by assumption) ?rs8
                case hy8 => (intro w hSw; (try dsimp only at hSw); go_simp; try (with_reducible rfl))
                (try simp only [Act.put, List.setIfInBounds_toArray, List.set_cons_zero, List.set_cons_succ, List.getElem_toArray, List.getElem_cons_zero, List.getElem_cons_succ])
                refine wpAnyH_ready (rs := [11]) (by kernel_rfl) (by simp) ?_
                refine AllReadyH.cons rfl (fun K hK => ?_) ?_
                · go_simp
                  refine hK.out _ _ (by exact ⟨(cell_set2 w5 _ (w.heap.size + 1 + 1) _ _ (by dsimp only; omega)).trans (H2.out _ H5.out.2.1).1, (cell_set2 w5 _ (w.heap.size + 1 + 1) _ _ (by dsimp only; omega)).trans (H2.out _ H5.out.2.1).2.1, (cell_set2 w5 _ (w.heap.size + 1 + 1) _ _ (by dsimp only; omega)).trans (H2.out _ H5.out.2.1).2.2.1, (cell_set2 w5 _ (w.heap.size + 1 + 1) _ _ (by dsimp only; omega)).trans (H2.out _ H5.out.2.1).2.2.2.1, (cell_set2 w5 _ (w.heap.size + 1 + 1) _ _ (by dsimp only; omega)).trans (H2.out _ H5.out.2.1).2.2.2.2.1, (cell_set2 w5 _ (w.heap.size + 1 + 1) _ _ (by dsimp only; omega)).trans (H2.out _ H5.out.2.1).2.2.2.2.2.1, (cell_set2 w5 _ (w.heap.size + 1 + 1) _ _ (by dsimp only; omega)).trans (H2.out _ H5.out.2.1).2.2.2.2.2.2.1, (cell_set2 w5 _ (w.heap.size + 1 + 1) _ _ (by dsimp only; omega)).trans (H2.out _ H5.out.2.1).2.2.2.2.2.2.2.1, (cell_set2 w5 _ (w.heap.size + 1 + 1) _ _ (by dsimp only; omega)).trans (H2.out _ H5.out.2.1).2.2.2.2.2.2.2.2⟩) (fun hHeld => ?_)
                  clear hK K
                  (try simp only [Act.put, List.setIfInBounds_toArray, List.set_cons_zero, List.set_cons_succ, List.getElem_toArray, List.getElem_cons_zero, List.getElem_cons_succ])
                  refine wpAnyH_take (i := 12) (v := ?_) rfl (by kernel_rfl) (by kernel_rfl) (by kernel_rfl) (fun _ _ _ h => h) (Or.inl ⟨by rfl, ?hy9⟩) (by assumption) ?rs9
                  case hy9 => (intro w hSw; (try dsimp only at hSw); go_simp; try (with_reducible rfl))
                  (try simp only [Act.put, List.setIfInBounds_toArray, List.set_cons_zero, List.set_cons_succ, List.getElem_toArray, List.getElem_cons_zero, List.getElem_cons_succ])
                  refine wpAnyH_done (by kernel_rfl) ?_ _
                  go_wp2_with fail
                  exact bodyPost_ret (v := .tuple #[.agg #[.int .i64 0, .slice none 0 0], .int .i64 350]) (by simp [results, Tryz.results57, go_sem, z0, z1]) rfl ⟨((bthen H1.out.2.2.2 H5.out.2.1).setCell (by simp; omega) _).setCell (by simp; omega) _, .inl ⟨HQ.out, rfl⟩⟩
                · exact AllReadyH.nil
              | true =>
                simp only [ckV, if_true]
                have HQ := hide (show addM p l x = some (putL l (newx p l x)) by rw [HE.out, hV]; rfl)
                clear hV
                refine hK.out _ _ (by exact (H2.out _ H5.out.2.1)) (fun hHeld => ?_)
                clear hK K
                (try simp only [Act.put, List.setIfInBounds_toArray, List.set_cons_zero, List.set_cons_succ, List.getElem_toArray, List.getElem_cons_zero, List.getElem_cons_succ])
                refine wpAnyH_take (i := 9) (v := ?_) rfl (by kernel_rfl) (by kernel_rfl) (by kernel_rfl) (fun _ _ _ h => h) (Or.inl ⟨by rfl, ?hy10⟩) (by assumption) ?rs10
                case hy10 => (intro w hSw; (try dsimp only at hSw); go_simp; try (with_reducible rfl))
                (try simp only [Act.put, List.setIfInBounds_toArray, List.set_cons_zero, List.set_cons_succ, List.getElem_toArray, List.getElem_cons_zero, List.getElem_cons_succ])
                refine wpAnyH_take (i := 10) (v := ?_) rfl (by kernel_rfl) (by kernel_rfl) (by kernel_rfl) (fun _ _ _ h => h) (Or.inl ⟨by rfl, ?hy11⟩) (by assumption) ?rs11
                case hy11 => (intro w hSw; (try dsimp only at hSw); go_simp; try (with_reducible rfl))
                (try simp only [Act.put, List.setIfInBounds_toArray, List.set_cons_zero, List.set_cons_succ, List.getElem_toArray, List.getElem_cons_zero, List.getElem_cons_succ])
                refine wpAnyH_ready (rs := [11]) (by kernel_rfl) (by simp) ?_
                refine AllReadyH.cons rfl (fun K hK => ?_) ?_
                · go_simp
                  refine hK.out _ _ (by exact ⟨(cell_set2 w5 _ (w.heap.size + 1 + 1) _ _ (by dsimp only; omega)).trans (H2.out _ H5.out.2.1).1, (cell_set2 w5 _ (w.heap.size + 1 + 1) _ _ (by dsimp only; omega)).trans (H2.out _ H5.out.2.1).2.1, (cell_set2 w5 _ (w.heap.size + 1 + 1) _ _ (by dsimp only; omega)).trans (H2.out _ H5.out.2.1).2.2.1, (cell_set2 w5 _ (w.heap.size + 1 + 1) _ _ (by dsimp only; omega)).trans (H2.out _ H5.out.2.1).2.2.2.1, (cell_set2 w5 _ (w.heap.size + 1 + 1) _ _ (by dsimp only; omega)).trans (H2.out _ H5.out.2.1).2.2.2.2.1, (cell_set2 w5 _ (w.heap.size + 1 + 1) _ _ (by dsimp only; omega)).trans (H2.out _ H5.out.2.1).2.2.2.2.2.1, (cell_set2 w5 _ (w.heap.size + 1 + 1) _ _ (by dsimp only; omega)).trans (H2.out _ H5.out.2.1).2.2.2.2.2.2.1, (cell_set2 w5 _ (w.heap.size + 1 + 1) _ _ (by dsimp only; omega)).trans (H2.out _ H5.out.2.1).2.2.2.2.2.2.2.1, (cell_set2 w5 _ (w.heap.size + 1 + 1) _ _ (by dsimp only; omega)).trans (H2.out _ H5.out.2.1).2.2.2.2.2.2.2.2⟩) (fun hHeld => ?_)
                  clear hK K
                  (try simp only [Act.put, List.setIfInBounds_toArray, List.set_cons_zero, List.set_cons_succ, List.getElem_toArray, List.getElem_cons_zero, List.getElem_cons_succ])
                  refine wpAnyH_take (i := 12) (v := ?_) rfl (by kernel_rfl) (by kernel_rfl) (by kernel_rfl) (fun _ _ _ h => h) (Or.inl ⟨by rfl, ?hy12⟩) (by assumption) ?rs12
                  case hy12 => (intro w hSw; (try dsimp only at hSw); go_simp; try (with_reducible rfl))
                  (try simp only [Act.put, List.setIfInBounds_toArray, List.set_cons_zero, List.set_cons_succ, List.getElem_toArray, List.getElem_cons_zero, List.getElem_cons_succ])
                  refine wpAnyH_done (by kernel_rfl) ?_ _
                  go_wp2_with fail
                  refine bodyPost_ret (v := .tuple #[.agg #[.int .i64 p, .slice A4 (putL l (newx p l x)).length c4], .int .i64 0]) (by simp [results, Tryz.results57, go_sem, z0, z1]) rfl ⟨((bthen H1.out.2.2.2 H5.out.2.1).setCell (by simp; omega) _).setCell (by simp; omega) _, .inr ⟨_, A4, c4, HQ.out, rfl, h41, by unfold maxLen at h42; omega, ?_⟩⟩
                  exact ((H5.out.1.set ⟨w.heap.size + 1 + 1, 0, none⟩ (by simp; omega) _).set ⟨w.heap.size + 1 + 1, 1, none⟩ (by simp; omega) _).mono (by simp; omega)
                · exact AllReadyH.nil
            · exact AllReadyH.nil
          · exact AllReadyH.nil
        · exact AllReadyH.nil
end Go.Proofs.YtcfbgelhggapjaaGreatDoor
/- Replica: the package's Add and Correct. -/
namespace Go.Proofs.YtcfbgelhggapjaaGreatDoor
open Go.RowKit Go.Shelf
set_option maxRecDepth 100000 in
set_option maxHeartbeats 4000000 in
theorem c_pAdd (p at_ kind : Int) (text : ByteArray) (A : Option Addr) (N c : Nat) (l : List Rc) (w : World) (hR : RL w) (hnc : N ≤ c) (hc : c ≤ 9223372036854775807) (hr : SlR w w.heap.size 7 A N (l.flatMap cR)) :
    Calls Tryz.prog 18 #[rpV p A N c, .int .i64 at_, .int .i64 kind, .string text] w (RepPost p (addM p l ⟨0, 0, at_, -1, 0, kind, text⟩) w) := by
  have hb0 := balloc (balloc (Below.refl w.heap.size w) (.cells #[.int .i64 p, .slice A N c] 25)) (.cells #[.int .i64 0, .slice none 0 0] 25)
  have hk := c_pput p A N c l ⟨0, 0, at_, -1, 0, kind, text⟩ ((w.alloc (.cells #[.int .i64 p, .slice A N c] 25)).alloc (.cells #[.int .i64 0, .slice none 0 0] 25)) (hR.to' hb0) hnc hc (hr.to' hb0)
  have gZ : Blk ((w.alloc (.cells #[.int .i64 p, .slice A N c] 25)).alloc (.cells #[.int .i64 0, .slice none 0 0] 25)) (w.heap.size + 1) 25 [.int .i64 0, .slice none 0 0] := by
    have := Blk.new (w.alloc (.cells #[.int .i64 p, .slice A N c] 25)) 25 [.int .i64 0, .slice none 0 0]
    rw [show (w.alloc (.cells #[.int .i64 p, .slice A N c] 25)).heap.size = w.heap.size + 1 from by simp] at this
    exact this
  obtain ⟨g0, g1⟩ := hR.to' hb0
  have hlt0 := hR.lt
  have HZ := hide (And.intro gZ hb0)
  clear hr gZ hb0 hR
  unfold rpV
  unfold rpV rcV at hk
  dsimp only at hk
  generalize addM p l _ = o at *
  go_enter Tryz.func18, Tryz.ntmps18
  go_wp2_with fail
  refine hk.mono ?_
  clear hk
  intro e w1 hp
  obtain ⟨hb1, p', A', n', c', er, rfl, hs, hfin⟩ := hp.open
  obtain ⟨z0, z1, z2, z3⟩ := (HZ.out.1.below hb1 HZ.out.1.lt).all2
  have hz := (HZ.out.1.below hb1 HZ.out.1.lt).lt
  have HF := hide (And.intro hfin (And.intro hs hb1))
  clear hp hfin hs hb1
  go_wp2
  refine bodyPost_ret (v := .tuple #[.agg #[.int .i64 p', .slice A' n' c'], .int .i64 er]) (by simp [results, Tryz.results18, go_sem, z0, z1]) rfl ?_
  obtain ⟨hfin, hs, hb1⟩ := HF.out
  exact hfin w _ (by simp; omega) (((bthen HZ.out.2 hb1).setCell (by simp) _).setCell (by simp) _) ((hs.set _ (by simp) _).set _ (by simp) _)
set_option maxRecDepth 100000 in
set_option maxHeartbeats 4000000 in
theorem c_pCorrect (p at_ pen num kind : Int) (text : ByteArray) (A : Option Addr) (N c : Nat) (l : List Rc) (w : World) (hR : RL w) (hnc : N ≤ c) (hc : c ≤ 9223372036854775807) (hr : SlR w w.heap.size 7 A N (l.flatMap cR)) :
    Calls Tryz.prog 22 #[rpV p A N c, .int .i64 at_, .int .i64 pen, .int .i64 num, .int .i64 kind, .string text] w (RepPost p (corM p l ⟨0, 0, at_, pen, num, kind, text⟩) w) := by
  have hb0 := balloc (balloc (Below.refl w.heap.size w) (.cells #[.int .i64 p, .slice A N c] 25)) (.cells #[.int .i64 0, .slice none 0 0] 25)
  have gZ : Blk ((w.alloc (.cells #[.int .i64 p, .slice A N c] 25)).alloc (.cells #[.int .i64 0, .slice none 0 0] 25)) (w.heap.size + 1) 25 [.int .i64 0, .slice none 0 0] := by
    have := Blk.new (w.alloc (.cells #[.int .i64 p, .slice A N c] 25)) 25 [.int .i64 0, .slice none 0 0]
    rw [show (w.alloc (.cells #[.int .i64 p, .slice A N c] 25)).heap.size = w.heap.size + 1 from by simp] at this
    exact this
  obtain ⟨g0, g1⟩ := hR.to' hb0
  have hlt0 := hR.lt
  by_cases hneg : (pen, num) = ((-1 : Int), (0 : Int))
  · have hq : ∀ w, (binOp .eql 70 (.agg #[.int .i64 pen, .int .i64 num]) (.agg #[.int .i64 (-1), .int .i64 0])).run Tryz.prog w = .ok (.bool true) w := fun w => by rw [eqlKy w (pen, num) (-1, 0), decide_eq_true hneg]
    have HE := hide (show corM p l ⟨0, 0, at_, pen, num, kind, text⟩ = none by
      simp only [Prod.mk.injEq] at hneg
      unfold corM
      rw [if_pos hneg])
    have HZ := hide (And.intro gZ hb0)
    clear hr gZ hb0 hneg hR
    unfold rpV
    go_enter Tryz.func22, Tryz.ntmps22
    go_wp2
    exact bodyPost_ret (v := .tuple #[.agg #[.int .i64 0, .slice none 0 0], .int .i64 350]) (by simp [results, Tryz.results22, go_sem]) rfl ⟨(by first | exact HZ.out.2 | exact (HZ.out.2.setCell (by simp) _).setCell (by simp) _), .inl ⟨HE.out, rfl⟩⟩
  · have HE := hide (show corM p l ⟨0, 0, at_, pen, num, kind, text⟩ = addM p l ⟨0, 0, at_, pen, num, kind, text⟩ by
      unfold corM
      rw [if_neg (fun h => hneg (by rw [show pen = -1 from h.1, show num = 0 from h.2]))])
    have hq : ∀ w, (binOp .eql 70 (.agg #[.int .i64 pen, .int .i64 num]) (.agg #[.int .i64 (-1), .int .i64 0])).run Tryz.prog w = .ok (.bool false) w := fun w => by rw [eqlKy w (pen, num) (-1, 0), decide_eq_false hneg]
    rw [HE.out]
    have hk := c_pput p A N c l ⟨0, 0, at_, pen, num, kind, text⟩ ((w.alloc (.cells #[.int .i64 p, .slice A N c] 25)).alloc (.cells #[.int .i64 0, .slice none 0 0] 25)) (hR.to' hb0) hnc hc (hr.to' hb0)
    have HZ := hide (And.intro gZ hb0)
    clear hr gZ hb0 HE hneg hR
    unfold rpV
    unfold rpV rcV at hk
    dsimp only at hk
    generalize addM p l _ = o at *
    go_enter Tryz.func22, Tryz.ntmps22
    go_wp2_with fail
    refine hk.mono ?_
    clear hk
    intro e w1 hp
    obtain ⟨hb1, p', A', n', c', er, rfl, hs, hfin⟩ := hp.open
    obtain ⟨z0, z1, z2, z3⟩ := (HZ.out.1.below hb1 HZ.out.1.lt).all2
    have hz := (HZ.out.1.below hb1 HZ.out.1.lt).lt
    have HF := hide (And.intro hfin (And.intro hs hb1))
    clear hp hfin hs hb1
    go_wp2
    refine bodyPost_ret (v := .tuple #[.agg #[.int .i64 p', .slice A' n' c'], .int .i64 er]) (by simp [results, Tryz.results22, go_sem, z0, z1]) rfl ?_
    obtain ⟨hfin, hs, hb1⟩ := HF.out
    exact hfin w _ (by simp; omega) (((bthen HZ.out.2 hb1).setCell (by simp) _).setCell (by simp) _) ((hs.set _ (by simp) _).set _ (by simp) _)
end Go.Proofs.YtcfbgelhggapjaaGreatDoor
