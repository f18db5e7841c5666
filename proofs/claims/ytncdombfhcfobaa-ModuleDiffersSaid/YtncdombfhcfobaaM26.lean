/- Contract: Rebase. -/
import Derived.Test.YtncdombfhcfobaaM26a
namespace Go.Proofs.Ytncdombfhcfobaa
open Go.RowKit
def rebOk (ms : List Mo) (next : Mo) (c : Cp) : Bool := (validB ms && validB (replL next ms)) && validCopyB ms c && decide (next.id = c.mod)
/-- an item that was taken out is there -/
def goneP (now : List It) (n : Int) : Bool := (getI now n).isSome
def rebC (now : List It) (c : Cp) : Cp := ⟨c.code, c.mod, c.x, c.y, c.changes.filter (changedB now), c.gone.filter (goneP now)⟩
def contU (old now : List It) (c : Cp) : List Int := (c.changes.map (·.id) ++ c.gone).filter (cntB old now)
def RebCut (w3 : World) (old now : List It) (v13 v14 : Value) (wx : World) : Prop :=
  ∃ b6 b7 mo mn, v13 = .pointer (some ⟨b6, 0, none⟩) ∧ v14 = .pointer (some ⟨b7, 0, none⟩) ∧ Blk wx b6 82 [.map (some mo)] ∧ Blk wx b7 82 [.map (some mn)] ∧ IM wx mo (old.map kvI) ∧ IM wx mn (now.map kvI) ∧ Below w3.heap.size w3 wx
def RebasePost (ms : List Mo) (next : Mo) (c : Cp) (w : World) (e : Ending) (w' : World) : Prop :=
  Below w.heap.size w w' ∧ (rebOk ms next c = false ∧ e = .returned (.tuple #[crV zCR, .slice none 0 0, .int .i64 140]) ∨
    rebOk ms next c = true ∧ ∃ q v, e = .returned (.tuple #[crV q, v, .int .i64 0]) ∧ CpR w' q (rebC (byL next.items) c) ∧
      w'.ownsRow w.heap.size 3 1 v (sortN (contU (byL (itemsOf ms c.mod)) (byL next.items) c)).length ((sortN (contU (byL (itemsOf ms c.mod)) (byL next.items) c)).flatMap cN))
theorem reb_end {w W : World} {g : Nat} (hb : Below w.heap.size w W) (hg : w.heap.size ≤ g) (a b c d e f : Value) :
    Below w.heap.size w ((((((W.setCell ⟨g, 0, none⟩ a).setCell ⟨g, 1, none⟩ b).setCell ⟨g, 2, none⟩ c).setCell ⟨g, 3, none⟩ d).setCell ⟨g, 4, none⟩ e).setCell ⟨g, 5, none⟩ f) :=
  bset (bset (bset (bset (bset (bset hb (p := ⟨g, 0, none⟩) hg a) (p := ⟨g, 1, none⟩) hg b) (p := ⟨g, 2, none⟩) hg c) (p := ⟨g, 3, none⟩) hg d) (p := ⟨g, 4, none⟩) hg e) (p := ⟨g, 5, none⟩) hg f
set_option linter.unusedSimpArgs false in
set_option maxRecDepth 100000 in
set_option maxHeartbeats 16000000 in
theorem c_Rebase (A : Option Addr) (N cc : Nat) (rows : List MR) (ms : List Mo) (r : MR) (next : Mo) (rc : CR) (c : Cp) (w : World) (hN : N ≤ 100000) (hr : SlR w w.heap.size 2 A N (rows.flatMap cM)) (hm : Mods w rows ms)
    (hml : ∀ m ∈ ms, m.items.length ≤ 1000000) (hnl : next.items.length ≤ 1000000) (hid : r.id = next.id) (hrs : SlR w w.heap.size 6 r.a r.n (next.items.flatMap cI)) (hC : CpR w rc c) :
    Calls Try.prog 19 #[.slice A N cc, mrV r, crV rc] w (RebasePost ms next c w) := by
  obtain ⟨i0, hi, hz0, hz1, hz2⟩ := info_parts Try.infoItem
  obtain ⟨i1, hi1, hy0, hy1, hy2⟩ := info_parts Try.infoInt
  have hlq := hrs.lenI
  have hrn : r.n ≤ 9223372036854775807 := by omega
  have gN := ((Blk.new w 27 (cM r)).alloc (.cells (cC rc).toArray 45)).alloc (.cells (cC zCR).toArray 45)
  have gC := (Blk.new (w.alloc (.cells (cM r).toArray 27)) 45 (cC rc)).alloc (.cells (cC zCR).toArray 45)
  have gZ := Blk.new ((w.alloc (.cells (cM r).toArray 27)).alloc (.cells (cC rc).toArray 45)) 45 (cC zCR)
  have hb0 := balloc (balloc (balloc (Below.refl w.heap.size w) (.cells (cM r).toArray 27)) (.cells (cC rc).toArray 45)) (.cells (cC zCR).toArray 45)
  have z1 : (w.alloc (.cells (cM r).toArray 27)).heap.size = w.heap.size + 1 := by simp
  have z2 : ((w.alloc (.cells (cM r).toArray 27)).alloc (.cells (cC rc).toArray 45)).heap.size = w.heap.size + 1 + 1 := by simp
  rw [z1] at gC
  rw [z2] at gZ
  clear z1 z2
  obtain ⟨w0, hw0⟩ : ∃ w0, w0 = ((w.alloc (.cells (cM r).toArray 27)).alloc (.cells (cC rc).toArray 45)).alloc (.cells (cC zCR).toArray 45) := ⟨_, rfl⟩
  rw [← hw0] at gN gC gZ hb0
  have HNX := hide (hrs.to' hb0)
  have hr0 := hr.to' hb0
  have hm0 := hm.to hb0
  have hC0 := hC.to hb0
  have hk := c_Replace A N cc rows ms r next w0 hN hr0 hm0 hml hnl hid HNX.out
  have hm63 : N ≤ 9223372036854775807 := by omega
  have hv0 := fun (W : World) (h : Below w0.heap.size w0 W) => c_ValidCopy A N cc rows ms rc c W hm63 (hr0.to' h) (hm0.to h) (hC0.to h)
  have HV0 := hide hv0
  have HW := hide (And.intro hr0 (And.intro hm0 (And.intro hC0 (And.intro hid hC.1))))
  obtain ⟨z0, z1, z2, z3, z4, z5⟩ := gZ.allC
  obtain ⟨x0, x1, x2, x3, x4, x5⟩ := gC.allC
  obtain ⟨n0, n1⟩ := gN.two
  have HG := hide (And.intro gN (And.intro gC (And.intro gZ hb0)))
  clear hr hm hml hnl hid hrs hC hlq gN gC gZ hb0 hr0 hm0 hC0 hv0
  unfold mrV crV at *
  go_enter Try.func19, Try.ntmps19
  have hw0' : w0 = ((w.alloc (.cells #[.int .i64 r.id, .slice r.a r.n r.c] 27)).alloc (.cells #[.int .i64 rc.code, .int .i64 rc.mod, .int .i64 rc.x, .int .i64 rc.y, .slice rc.a rc.n rc.c, .slice rc.a2 rc.n2 rc.c2] 45)).alloc (.cells #[.int .i64 0, .int .i64 0, .int .i64 0, .int .i64 0, .slice none 0 0, .slice none 0 0] 45) := hw0
  have HW0 := hide hw0'
  clear hw0 hw0'
  go_wp2_with fail
  rw [← HW0.out]
  clear HW0
  refine hk.mono ?_
  clear hk
  rintro e w1 ⟨hb1, hpost⟩
  have gN1 := HG.out.1.below hb1 HG.out.1.lt
  have gC1 := HG.out.2.1.below hb1 HG.out.2.1.lt
  have gZ1 := HG.out.2.2.1.below hb1 HG.out.2.2.1.lt
  have hb01 := bthen HG.out.2.2.2 hb1
  rcases hpost with ⟨hf, rfl⟩ | ⟨ht, A9, n9, k9, rows9, rfl, -⟩
  · have HF := hide (show rebOk ms next c = false by unfold rebOk; rw [hf]; rfl)
    obtain ⟨z0, z1, z2, z3, z4, z5⟩ := gZ1.allC
    have u0 := gZ1.free 0
    have u1 := gZ1.free 1
    have u2 := gZ1.free 2
    have u3 := gZ1.free 3
    have u4 := gZ1.free 4
    have u5 := gZ1.free 5
    have hgl := gZ1.lt
    dsimp only [zCR] at z0 z1 z2 z3 z4 z5
    clear hf gN1 gC1 gZ1 hb1
    go_wp2_with fail
    refine bodyPost_ret (v := .tuple #[.agg #[.int .i64 0, .int .i64 0, .int .i64 0, .int .i64 0, .slice none 0 0, .slice none 0 0], .slice none 0 0, .int .i64 140]) (by simp [results, Try.results19, go_sem, z0, z1, z2, z3, z4, z5]) rfl ?_
    exact ⟨reb_end hb01 (by omega) _ _ _ _ _ _, .inl ⟨HF.out, rfl⟩⟩
  · have HT := hide ht
    clear ht
    obtain ⟨n0, n1'⟩ := gN1.two
    obtain ⟨x0, x1, x2, x3, x4, x5⟩ := gC1.allC
    go_wp2_with fail
    refine (HV0.out _ hb1).mono ?_
    rintro e w2 ⟨rfl, hb2⟩
    have gN2 := gN1.below hb2 gN1.lt
    have gC2 := gC1.below hb2 gC1.lt
    have gZ2 := gZ1.below hb2 gZ1.lt
    have hb02 := bthen hb01 hb2
    have hb12 := bthen hb1 hb2
    clear gN1 gC1 gZ1 hb01 hb1 hb2 n0 n1 x0 x1 x2 x3 x4 x5 z0 z1 z2 z3 z4 z5
    obtain ⟨n0, n1'⟩ := gN2.two
    obtain ⟨x0, x1, x2, x3, x4, x5⟩ := gC2.allC
    cases hV : validCopyB ms c with
    | false =>
      have HF := hide (show rebOk ms next c = false by unfold rebOk; rw [hV]; simp)
      clear hV
      obtain ⟨z0, z1, z2, z3, z4, z5⟩ := gZ2.allC
      dsimp only [zCR] at z0 z1 z2 z3 z4 z5
      have u0 := gZ2.free 0
      have u1 := gZ2.free 1
      have u2 := gZ2.free 2
      have u3 := gZ2.free 3
      have u4 := gZ2.free 4
      have u5 := gZ2.free 5
      have hgl := gZ2.lt
      go_wp2_with fail
      refine bodyPost_ret (v := .tuple #[.agg #[.int .i64 0, .int .i64 0, .int .i64 0, .int .i64 0, .slice none 0 0, .slice none 0 0], .slice none 0 0, .int .i64 140]) (by simp [results, Try.results19, go_sem, z0, z1, z2, z3, z4, z5]) rfl ?_
      exact ⟨reb_end hb02 (by omega) _ _ _ _ _ _, .inl ⟨HF.out, rfl⟩⟩
    | true =>
      by_cases hne : r.id = rc.mod
      · have hd0 : (r.id != rc.mod) = false := by simp [hne]
        obtain ⟨hr0, hm0, hC0, hid, hcc⟩ := HW.out
        have HOk := hide (show rebOk ms next c = true by unfold rebOk; rw [HT.out, hV]; simp [← hid, hne, hcc.2.1])
        have hr2 := hr0.to' hb12
        have hm2 := hm0.to hb12
        have hC2 := hC0.to hb12
        have hnx2 := HNX.out.to' hb12
        obtain ⟨r1, b1, hfv, -, hf1, hf2, hf3⟩ := hm2.itemsOf rc.mod
        rw [hcc.2.1] at hf3
        have hk := c_find A N cc rows rc.mod w2 hm63 hr2
        rw [hfv] at hk
        obtain ⟨id1, a1, n1, k1⟩ := r1
        dsimp only at hf1 hf2 hf3 hk
        have hn1 : n1 ≤ 9223372036854775807 := by omega
        have HLen := hide (cpOk_len (c := c) (by unfold validCopyB at hV; simp only [Bool.and_eq_true] at hV; exact hV.1.1.2))
        have HFV := hide (And.intro hr2 (And.intro hm2 (And.intro hC2 (And.intro hnx2 (And.intro hf3 hcc)))))
        clear hr0 hm0 hC0 hid hcc hr2 hm2 hC2 hnx2 hfv hf1 hf2 hf3 hV hne HW HNX HV0
        go_wp2_with fail
        refine hk.mono ?_
        clear hk
        rintro e w3 ⟨rfl, hb3⟩
        have gM3 := Blk.new w3 27 [.int .i64 id1, .slice a1 n1 k1]
        have gN3 := (gN2.below hb3 gN2.lt).alloc (.cells #[.int .i64 id1, .slice a1 n1 k1] 27)
        have gC3 := (gC2.below hb3 gC2.lt).alloc (.cells #[.int .i64 id1, .slice a1 n1 k1] 27)
        have gZ3 := (gZ2.below hb3 gZ2.lt).alloc (.cells #[.int .i64 id1, .slice a1 n1 k1] 27)
        have hbw3 := balloc (bthen hb02 hb3) (.cells #[.int .i64 id1, .slice a1 n1 k1] 27)
        have hb23 := balloc hb3 (.cells #[.int .i64 id1, .slice a1 n1 k1] 27)
        clear gN2 gC2 gZ2 hb02 hb12 hb3 n0 n1' x0 x1 x2 x3 x4 x5
        go_upto_region 5 with (fail)
        obtain ⟨bm, hbm⟩ : ∃ bm, bm = w3.heap.size := ⟨_, rfl⟩
        rw [← hbm] at gM3
        simp only [← hbm]
        generalize hw3 : w3.alloc (.cells #[.int .i64 id1, .slice a1 n1 k1] 27) = wo at *
        clear hw3 hbm
        clear w3
        obtain ⟨w3, rfl⟩ : ∃ w3 : World, w3 = wo := ⟨_, rfl⟩
        obtain ⟨hr2, hm2, hC2, hnx2, hf3, hcc⟩ := HFV.out
        have HA := hide (hf3.to' hb23)
        have HNX := hide (hnx2.to' hb23)
        have hC3 := hC2.to hb23
        have HC3 := hide (And.intro hC3 hcc)
        clear hr2 hm2 hC2 hnx2 hf3 hcc HFV hC3 hb23
        have hS := fun (W : World) (h : Below w3.heap.size w3 W) => (show W.cell? ⟨bm, 1, none⟩ = some (.slice a1 n1 k1) ∧ W.cell? ⟨w.heap.size, 1, none⟩ = some (.slice r.a r.n r.c) from ⟨(gM3.below h gM3.lt).cell 1, (gN3.below h gN3.lt).cell 1⟩)
        have HS := hide hS
        have HB3 := hide (And.intro gM3 (And.intro gN3 (And.intro gC3 (And.intro gZ3 hbw3))))
        clear hS gM3 gN3 gC3 gZ3 hbw3
        go_cut [13, 14] (fun v13 v14 wx => RebCut w3 (byL (itemsOf ms c.mod)) (byL next.items) v13 v14 wx)
        case first =>
          refine wp_region_held_drew (S := fun W => W.cell? ⟨bm, 1, none⟩ = some (.slice a1 n1 k1) ∧ W.cell? ⟨w.heap.size, 1, none⟩ = some (.slice r.a r.n r.c)) (by kernel_rfl) (HS.out _ (bdrew (Below.refl _ _))) (fun hHeld => ?_)
          refine wpAnyH_take (i := 0) (v := ?_) rfl (by kernel_rfl) (by kernel_rfl) (by kernel_rfl) (fun _ _ _ h => h) (Or.inl ⟨by rfl, ?hy1⟩) (by assumption) ?rs1
          case hy1 => (intro w hSw; (try dsimp only at hSw); go_simp; try (with_reducible rfl))
          (try simp only [Act.put, List.setIfInBounds_toArray, List.set_cons_zero, List.set_cons_succ, List.getElem_toArray, List.getElem_cons_zero, List.getElem_cons_succ])
          refine wpAnyH_take (i := 1) (v := ?_) rfl (by kernel_rfl) (by kernel_rfl) (by kernel_rfl) (fun _ _ _ h => h) (Or.inl ⟨by rfl, ?hy2⟩) (by assumption) ?rs2
          case hy2 => (intro w hSw; (try dsimp only at hSw); go_simp; try (with_reducible rfl))
          (try simp only [Act.put, List.setIfInBounds_toArray, List.set_cons_zero, List.set_cons_succ, List.getElem_toArray, List.getElem_cons_zero, List.getElem_cons_succ])
          refine wpAnyH_take (i := 3) (v := ?_) rfl (by kernel_rfl) (by kernel_rfl) (by kernel_rfl) (fun _ _ _ h => h) (Or.inl ⟨by rfl, ?hy3⟩) (by assumption) ?rs3
          case hy3 => (intro w hSw; (try dsimp only at hSw); go_simp; try (with_reducible rfl))
          (try simp only [Act.put, List.setIfInBounds_toArray, List.set_cons_zero, List.set_cons_succ, List.getElem_toArray, List.getElem_cons_zero, List.getElem_cons_succ])
          refine wpAnyH_take (i := 4) (v := ?_) rfl (by kernel_rfl) (by kernel_rfl) (by kernel_rfl) (fun _ _ _ h => h) (Or.inl ⟨by rfl, ?hy4⟩) (by assumption) ?rs4
          case hy4 => (intro w hSw; (try dsimp only at hSw); go_simp; try (with_reducible rfl))
          (try simp only [Act.put, List.setIfInBounds_toArray, List.set_cons_zero, List.set_cons_succ, List.getElem_toArray, List.getElem_cons_zero, List.getElem_cons_succ])
          refine wpAnyH_ready (rs := [2, 6, 7]) (by kernel_rfl) (by simp) ?_
          refine AllReadyH.cons rfl (fun K hK => ?_) ?_
          · go_simp
            refine (c_byID a1 n1 k1 (itemsOf ms c.mod) _ hn1 (HA.out.to' (bdrew (Below.refl _ _)))).mono ?_
            rintro e x1 ⟨mo, rfl, hm1, g1, hc1⟩
            have hb1 : Below w3.heap.size w3 x1 := bthen (bdrew (Below.refl _ _)) hc1
            clear hm1
            have hz1 := hb1.size
            have hy1 := hc1.size
            refine hK.out _ _ (by exact (HS.out _ hb1)) (fun hHeld => ?_)
            clear hK K
            (try simp only [Act.put, List.setIfInBounds_toArray, List.set_cons_zero, List.set_cons_succ, List.getElem_toArray, List.getElem_cons_zero, List.getElem_cons_succ])
            refine wpAnyH_ready (rs := [5, 6, 7]) (by kernel_rfl) (by simp) ?_
            refine AllReadyH.cons rfl (fun K hK => ?_) ?_
            · go_simp
              refine (c_byID r.a r.n r.c next.items _ hrn (HNX.out.to' (hb1))).mono ?_
              rintro e x2 ⟨mn, rfl, hm2, g2, hc2⟩
              have hb2 : Below w3.heap.size w3 x2 := bthen (hb1) hc2
              have j2_2 := g1.below hc2 g1.lt
              clear hm2
              have hz2 := hb2.size
              have hy2 := hc2.size
              refine hK.out _ _ (by exact (HS.out _ hb2)) (fun hHeld => ?_)
              clear hK K
              (try simp only [Act.put, List.setIfInBounds_toArray, List.set_cons_zero, List.set_cons_succ, List.getElem_toArray, List.getElem_cons_zero, List.getElem_cons_succ])
              refine wpAnyH_ready (rs := [6, 7]) (by kernel_rfl) (by simp) ?_
              refine AllReadyH.cons rfl (fun K hK => ?_) ?_
              · go_simp
                refine hK.out _ _ (by exact (HS.out _ (balloc hb2 (.cells #[.map none] 82)))) (fun hHeld => ?_)
                clear hK K
                (try simp only [Act.put, List.setIfInBounds_toArray, List.set_cons_zero, List.set_cons_succ, List.getElem_toArray, List.getElem_cons_zero, List.getElem_cons_succ])
                have g3 := (Blk.new x2 82 [.map none])
                have hb3 := balloc hb2 (.cells #[.map none] 82)
                have hs3 := hb2.size
                have j2_3 := (j2_2.alloc (.cells #[.map none] 82))
                have j5_3 := (g2.alloc (.cells #[.map none] 82))
                generalize hw3 : (x2.alloc (.cells #[.map none] 82)) = x3 at *
                clear hw3
                have hl3 := g3.lt
                refine wpAnyH_ready (rs := [7]) (by kernel_rfl) (by simp) ?_
                refine AllReadyH.cons rfl (fun K hK => ?_) ?_
                · go_simp
                  refine hK.out _ _ (by exact (HS.out _ (balloc hb3 (.cells #[.map none] 82)))) (fun hHeld => ?_)
                  clear hK K
                  (try simp only [Act.put, List.setIfInBounds_toArray, List.set_cons_zero, List.set_cons_succ, List.getElem_toArray, List.getElem_cons_zero, List.getElem_cons_succ])
                  have g4 := (Blk.new x3 82 [.map none])
                  have hb4 := balloc hb3 (.cells #[.map none] 82)
                  have hs4 := hb3.size
                  have j2_4 := (j2_3.alloc (.cells #[.map none] 82))
                  have j5_4 := (j5_3.alloc (.cells #[.map none] 82))
                  have j6_4 := (g3.alloc (.cells #[.map none] 82))
                  generalize hw4 : (x3.alloc (.cells #[.map none] 82)) = x4 at *
                  clear hw4
                  have hl4 := g4.lt
                  obtain ⟨y0, v0⟩ := j6_4.all1
                  obtain ⟨y1, v1⟩ := g4.all1
                  have l0 := j6_4.lt
                  have l1 := g4.lt
                  have hne : x2.heap.size ≠ x3.heap.size := by omega
                  have hne' : x3.heap.size ≠ x2.heap.size := by omega
                  have gX := (j6_4.one (.map (some mo))).other (p := ⟨x3.heap.size, 0, none⟩) hne (.map (some mn))
                  have gY := (g4.other (p := ⟨x2.heap.size, 0, none⟩) hne' (.map (some mo))).one (.map (some mn))
                  have iX := (j2_4.setCell ⟨x2.heap.size, 0, none⟩ (.map (some mo))).setCell ⟨x3.heap.size, 0, none⟩ (.map (some mn))
                  have iY := (j5_4.setCell ⟨x2.heap.size, 0, none⟩ (.map (some mo))).setCell ⟨x3.heap.size, 0, none⟩ (.map (some mn))
                  have hbX := bset (bset hb4 (p := ⟨x2.heap.size, 0, none⟩) (by omega) (.map (some mo))) (p := ⟨x3.heap.size, 0, none⟩) (by omega) (.map (some mn))
                  have HX := hide (And.intro gX (And.intro gY (And.intro iX (And.intro iY hbX))))
                  have hb1X := bset hb4 (p := ⟨x2.heap.size, 0, none⟩) (by omega) (.map (some mo))
                  clear gX gY iX iY
                  refine wpAnyH_ready (rs := [8]) (by kernel_rfl) (by simp) ?_
                  refine AllReadyH.cons rfl (fun K hK => ?_) ?_
                  · go_simp
                    refine hK.out _ _ (by exact (HS.out _ hb1X)) (fun hHeld => ?_)
                    clear hK K
                    (try simp only [Act.put, List.setIfInBounds_toArray, List.set_cons_zero, List.set_cons_succ, List.getElem_toArray, List.getElem_cons_zero, List.getElem_cons_succ])
                    refine wpAnyH_ready (rs := [9]) (by kernel_rfl) (by simp) ?_
                    refine AllReadyH.cons rfl (fun K hK => ?_) ?_
                    · go_simp
                      refine hK.out _ _ (by exact (HS.out _ hbX)) (fun hHeld => ?_)
                      clear hK K
                      (try simp only [Act.put, List.setIfInBounds_toArray, List.set_cons_zero, List.set_cons_succ, List.getElem_toArray, List.getElem_cons_zero, List.getElem_cons_succ])
                      refine wpAnyH_done (by kernel_rfl) ?_ _
                      go_wp2_with fail
                      go_meet
                      obtain ⟨gX, gY, iX, iY, hbX⟩ := HX.out
                      exact ⟨_, _, mo, mn, rfl, rfl, gX, gY, iX, iY, hbX⟩
                    exact AllReadyH.nil
                  exact AllReadyH.nil
                exact AllReadyH.nil
              refine AllReadyH.cons rfl (fun K hK => ?_) ?_
              · go_simp
                refine hK.out _ _ (by exact (HS.out _ (balloc hb2 (.cells #[.map none] 82)))) (fun hHeld => ?_)
                clear hK K
                (try simp only [Act.put, List.setIfInBounds_toArray, List.set_cons_zero, List.set_cons_succ, List.getElem_toArray, List.getElem_cons_zero, List.getElem_cons_succ])
                have g5 := (Blk.new x2 82 [.map none])
                have hb5 := balloc hb2 (.cells #[.map none] 82)
                have hs5 := hb2.size
                have j2_5 := (j2_2.alloc (.cells #[.map none] 82))
                have j5_5 := (g2.alloc (.cells #[.map none] 82))
                generalize hw5 : (x2.alloc (.cells #[.map none] 82)) = x5 at *
                clear hw5
                have hl5 := g5.lt
                refine wpAnyH_ready (rs := [6]) (by kernel_rfl) (by simp) ?_
                refine AllReadyH.cons rfl (fun K hK => ?_) ?_
                · go_simp
                  refine hK.out _ _ (by exact (HS.out _ (balloc hb5 (.cells #[.map none] 82)))) (fun hHeld => ?_)
                  clear hK K
                  (try simp only [Act.put, List.setIfInBounds_toArray, List.set_cons_zero, List.set_cons_succ, List.getElem_toArray, List.getElem_cons_zero, List.getElem_cons_succ])
                  have g6 := (Blk.new x5 82 [.map none])
                  have hb6 := balloc hb5 (.cells #[.map none] 82)
                  have hs6 := hb5.size
                  have j2_6 := (j2_5.alloc (.cells #[.map none] 82))
                  have j5_6 := (j5_5.alloc (.cells #[.map none] 82))
                  have j7_6 := (g5.alloc (.cells #[.map none] 82))
                  generalize hw6 : (x5.alloc (.cells #[.map none] 82)) = x6 at *
                  clear hw6
                  have hl6 := g6.lt
                  obtain ⟨y0, v0⟩ := g6.all1
                  obtain ⟨y1, v1⟩ := j7_6.all1
                  have l0 := g6.lt
                  have l1 := j7_6.lt
                  have hne : x5.heap.size ≠ x2.heap.size := by omega
                  have hne' : x2.heap.size ≠ x5.heap.size := by omega
                  have gX := (g6.one (.map (some mo))).other (p := ⟨x2.heap.size, 0, none⟩) hne (.map (some mn))
                  have gY := (j7_6.other (p := ⟨x5.heap.size, 0, none⟩) hne' (.map (some mo))).one (.map (some mn))
                  have iX := (j2_6.setCell ⟨x5.heap.size, 0, none⟩ (.map (some mo))).setCell ⟨x2.heap.size, 0, none⟩ (.map (some mn))
                  have iY := (j5_6.setCell ⟨x5.heap.size, 0, none⟩ (.map (some mo))).setCell ⟨x2.heap.size, 0, none⟩ (.map (some mn))
                  have hbX := bset (bset hb6 (p := ⟨x5.heap.size, 0, none⟩) (by omega) (.map (some mo))) (p := ⟨x2.heap.size, 0, none⟩) (by omega) (.map (some mn))
                  have HX := hide (And.intro gX (And.intro gY (And.intro iX (And.intro iY hbX))))
                  have hb1X := bset hb6 (p := ⟨x5.heap.size, 0, none⟩) (by omega) (.map (some mo))
                  clear gX gY iX iY
                  refine wpAnyH_ready (rs := [8]) (by kernel_rfl) (by simp) ?_
                  refine AllReadyH.cons rfl (fun K hK => ?_) ?_
                  · go_simp
                    refine hK.out _ _ (by exact (HS.out _ hb1X)) (fun hHeld => ?_)
                    clear hK K
                    (try simp only [Act.put, List.setIfInBounds_toArray, List.set_cons_zero, List.set_cons_succ, List.getElem_toArray, List.getElem_cons_zero, List.getElem_cons_succ])
                    refine wpAnyH_ready (rs := [9]) (by kernel_rfl) (by simp) ?_
                    refine AllReadyH.cons rfl (fun K hK => ?_) ?_
                    · go_simp
                      refine hK.out _ _ (by exact (HS.out _ hbX)) (fun hHeld => ?_)
                      clear hK K
                      (try simp only [Act.put, List.setIfInBounds_toArray, List.set_cons_zero, List.set_cons_succ, List.getElem_toArray, List.getElem_cons_zero, List.getElem_cons_succ])
                      refine wpAnyH_done (by kernel_rfl) ?_ _
                      go_wp2_with fail
                      go_meet
                      obtain ⟨gX, gY, iX, iY, hbX⟩ := HX.out
                      exact ⟨_, _, mo, mn, rfl, rfl, gX, gY, iX, iY, hbX⟩
                    exact AllReadyH.nil
                  exact AllReadyH.nil
                exact AllReadyH.nil
              exact AllReadyH.nil
            refine AllReadyH.cons rfl (fun K hK => ?_) ?_
            · go_simp
              refine hK.out _ _ (by exact (HS.out _ (balloc hb1 (.cells #[.map none] 82)))) (fun hHeld => ?_)
              clear hK K
              (try simp only [Act.put, List.setIfInBounds_toArray, List.set_cons_zero, List.set_cons_succ, List.getElem_toArray, List.getElem_cons_zero, List.getElem_cons_succ])
              have g7 := (Blk.new x1 82 [.map none])
              have hb7 := balloc hb1 (.cells #[.map none] 82)
              have hs7 := hb1.size
              have j2_7 := (g1.alloc (.cells #[.map none] 82))
              generalize hw7 : (x1.alloc (.cells #[.map none] 82)) = x7 at *
              clear hw7
              have hl7 := g7.lt
              refine wpAnyH_ready (rs := [5, 7]) (by kernel_rfl) (by simp) ?_
              refine AllReadyH.cons rfl (fun K hK => ?_) ?_
              · go_simp
                refine (c_byID r.a r.n r.c next.items _ hrn (HNX.out.to' (hb7))).mono ?_
                rintro e x8 ⟨mn, rfl, hm8, g8, hc8⟩
                have hb8 : Below w3.heap.size w3 x8 := bthen (hb7) hc8
                have j2_8 := j2_7.below hc8 j2_7.lt
                have j6_8 := g7.below hc8 g7.lt
                clear hm8
                have hz8 := hb8.size
                have hy8 := hc8.size
                refine hK.out _ _ (by exact (HS.out _ hb8)) (fun hHeld => ?_)
                clear hK K
                (try simp only [Act.put, List.setIfInBounds_toArray, List.set_cons_zero, List.set_cons_succ, List.getElem_toArray, List.getElem_cons_zero, List.getElem_cons_succ])
                refine wpAnyH_ready (rs := [7]) (by kernel_rfl) (by simp) ?_
                refine AllReadyH.cons rfl (fun K hK => ?_) ?_
                · go_simp
                  refine hK.out _ _ (by exact (HS.out _ (balloc hb8 (.cells #[.map none] 82)))) (fun hHeld => ?_)
                  clear hK K
                  (try simp only [Act.put, List.setIfInBounds_toArray, List.set_cons_zero, List.set_cons_succ, List.getElem_toArray, List.getElem_cons_zero, List.getElem_cons_succ])
                  have g9 := (Blk.new x8 82 [.map none])
                  have hb9 := balloc hb8 (.cells #[.map none] 82)
                  have hs9 := hb8.size
                  have j2_9 := (j2_8.alloc (.cells #[.map none] 82))
                  have j5_9 := (g8.alloc (.cells #[.map none] 82))
                  have j6_9 := (j6_8.alloc (.cells #[.map none] 82))
                  generalize hw9 : (x8.alloc (.cells #[.map none] 82)) = x9 at *
                  clear hw9
                  have hl9 := g9.lt
                  obtain ⟨y0, v0⟩ := j6_9.all1
                  obtain ⟨y1, v1⟩ := g9.all1
                  have l0 := j6_9.lt
                  have l1 := g9.lt
                  have hne : x1.heap.size ≠ x8.heap.size := by omega
                  have hne' : x8.heap.size ≠ x1.heap.size := by omega
                  have gX := (j6_9.one (.map (some mo))).other (p := ⟨x8.heap.size, 0, none⟩) hne (.map (some mn))
                  have gY := (g9.other (p := ⟨x1.heap.size, 0, none⟩) hne' (.map (some mo))).one (.map (some mn))
                  have iX := (j2_9.setCell ⟨x1.heap.size, 0, none⟩ (.map (some mo))).setCell ⟨x8.heap.size, 0, none⟩ (.map (some mn))
                  have iY := (j5_9.setCell ⟨x1.heap.size, 0, none⟩ (.map (some mo))).setCell ⟨x8.heap.size, 0, none⟩ (.map (some mn))
                  have hbX := bset (bset hb9 (p := ⟨x1.heap.size, 0, none⟩) (by omega) (.map (some mo))) (p := ⟨x8.heap.size, 0, none⟩) (by omega) (.map (some mn))
                  have HX := hide (And.intro gX (And.intro gY (And.intro iX (And.intro iY hbX))))
                  have hb1X := bset hb9 (p := ⟨x1.heap.size, 0, none⟩) (by omega) (.map (some mo))
                  clear gX gY iX iY
                  refine wpAnyH_ready (rs := [8]) (by kernel_rfl) (by simp) ?_
                  refine AllReadyH.cons rfl (fun K hK => ?_) ?_
                  · go_simp
                    refine hK.out _ _ (by exact (HS.out _ hb1X)) (fun hHeld => ?_)
                    clear hK K
                    (try simp only [Act.put, List.setIfInBounds_toArray, List.set_cons_zero, List.set_cons_succ, List.getElem_toArray, List.getElem_cons_zero, List.getElem_cons_succ])
                    refine wpAnyH_ready (rs := [9]) (by kernel_rfl) (by simp) ?_
                    refine AllReadyH.cons rfl (fun K hK => ?_) ?_
                    · go_simp
                      refine hK.out _ _ (by exact (HS.out _ hbX)) (fun hHeld => ?_)
                      clear hK K
                      (try simp only [Act.put, List.setIfInBounds_toArray, List.set_cons_zero, List.set_cons_succ, List.getElem_toArray, List.getElem_cons_zero, List.getElem_cons_succ])
                      refine wpAnyH_done (by kernel_rfl) ?_ _
                      go_wp2_with fail
                      go_meet
                      obtain ⟨gX, gY, iX, iY, hbX⟩ := HX.out
                      exact ⟨_, _, mo, mn, rfl, rfl, gX, gY, iX, iY, hbX⟩
                    exact AllReadyH.nil
                  exact AllReadyH.nil
                exact AllReadyH.nil
              refine AllReadyH.cons rfl (fun K hK => ?_) ?_
              · go_simp
                refine hK.out _ _ (by exact (HS.out _ (balloc hb7 (.cells #[.map none] 82)))) (fun hHeld => ?_)
                clear hK K
                (try simp only [Act.put, List.setIfInBounds_toArray, List.set_cons_zero, List.set_cons_succ, List.getElem_toArray, List.getElem_cons_zero, List.getElem_cons_succ])
                have g10 := (Blk.new x7 82 [.map none])
                have hb10 := balloc hb7 (.cells #[.map none] 82)
                have hs10 := hb7.size
                have j2_10 := (j2_7.alloc (.cells #[.map none] 82))
                have j6_10 := (g7.alloc (.cells #[.map none] 82))
                generalize hw10 : (x7.alloc (.cells #[.map none] 82)) = x10 at *
                clear hw10
                have hl10 := g10.lt
                refine wpAnyH_ready (rs := [5]) (by kernel_rfl) (by simp) ?_
                refine AllReadyH.cons rfl (fun K hK => ?_) ?_
                · go_simp
                  refine (c_byID r.a r.n r.c next.items _ hrn (HNX.out.to' (hb10))).mono ?_
                  rintro e x11 ⟨mn, rfl, hm11, g11, hc11⟩
                  have hb11 : Below w3.heap.size w3 x11 := bthen (hb10) hc11
                  have j2_11 := j2_10.below hc11 j2_10.lt
                  have j6_11 := j6_10.below hc11 j6_10.lt
                  have j7_11 := g10.below hc11 g10.lt
                  clear hm11
                  have hz11 := hb11.size
                  have hy11 := hc11.size
                  refine hK.out _ _ (by exact (HS.out _ hb11)) (fun hHeld => ?_)
                  clear hK K
                  (try simp only [Act.put, List.setIfInBounds_toArray, List.set_cons_zero, List.set_cons_succ, List.getElem_toArray, List.getElem_cons_zero, List.getElem_cons_succ])
                  obtain ⟨y0, v0⟩ := j6_11.all1
                  obtain ⟨y1, v1⟩ := j7_11.all1
                  have l0 := j6_11.lt
                  have l1 := j7_11.lt
                  have hne : x1.heap.size ≠ x7.heap.size := by omega
                  have hne' : x7.heap.size ≠ x1.heap.size := by omega
                  have gX := (j6_11.one (.map (some mo))).other (p := ⟨x7.heap.size, 0, none⟩) hne (.map (some mn))
                  have gY := (j7_11.other (p := ⟨x1.heap.size, 0, none⟩) hne' (.map (some mo))).one (.map (some mn))
                  have iX := (j2_11.setCell ⟨x1.heap.size, 0, none⟩ (.map (some mo))).setCell ⟨x7.heap.size, 0, none⟩ (.map (some mn))
                  have iY := (g11.setCell ⟨x1.heap.size, 0, none⟩ (.map (some mo))).setCell ⟨x7.heap.size, 0, none⟩ (.map (some mn))
                  have hbX := bset (bset hb11 (p := ⟨x1.heap.size, 0, none⟩) (by omega) (.map (some mo))) (p := ⟨x7.heap.size, 0, none⟩) (by omega) (.map (some mn))
                  have HX := hide (And.intro gX (And.intro gY (And.intro iX (And.intro iY hbX))))
                  have hb1X := bset hb11 (p := ⟨x1.heap.size, 0, none⟩) (by omega) (.map (some mo))
                  clear gX gY iX iY
                  refine wpAnyH_ready (rs := [8]) (by kernel_rfl) (by simp) ?_
                  refine AllReadyH.cons rfl (fun K hK => ?_) ?_
                  · go_simp
                    refine hK.out _ _ (by exact (HS.out _ hb1X)) (fun hHeld => ?_)
                    clear hK K
                    (try simp only [Act.put, List.setIfInBounds_toArray, List.set_cons_zero, List.set_cons_succ, List.getElem_toArray, List.getElem_cons_zero, List.getElem_cons_succ])
                    refine wpAnyH_ready (rs := [9]) (by kernel_rfl) (by simp) ?_
                    refine AllReadyH.cons rfl (fun K hK => ?_) ?_
                    · go_simp
                      refine hK.out _ _ (by exact (HS.out _ hbX)) (fun hHeld => ?_)
                      clear hK K
                      (try simp only [Act.put, List.setIfInBounds_toArray, List.set_cons_zero, List.set_cons_succ, List.getElem_toArray, List.getElem_cons_zero, List.getElem_cons_succ])
                      refine wpAnyH_done (by kernel_rfl) ?_ _
                      go_wp2_with fail
                      go_meet
                      obtain ⟨gX, gY, iX, iY, hbX⟩ := HX.out
                      exact ⟨_, _, mo, mn, rfl, rfl, gX, gY, iX, iY, hbX⟩
                    exact AllReadyH.nil
                  exact AllReadyH.nil
                exact AllReadyH.nil
              exact AllReadyH.nil
            refine AllReadyH.cons rfl (fun K hK => ?_) ?_
            · go_simp
              refine hK.out _ _ (by exact (HS.out _ (balloc hb1 (.cells #[.map none] 82)))) (fun hHeld => ?_)
              clear hK K
              (try simp only [Act.put, List.setIfInBounds_toArray, List.set_cons_zero, List.set_cons_succ, List.getElem_toArray, List.getElem_cons_zero, List.getElem_cons_succ])
              have g12 := (Blk.new x1 82 [.map none])
              have hb12 := balloc hb1 (.cells #[.map none] 82)
              have hs12 := hb1.size
              have j2_12 := (g1.alloc (.cells #[.map none] 82))
              generalize hw12 : (x1.alloc (.cells #[.map none] 82)) = x12 at *
              clear hw12
              have hl12 := g12.lt
              refine wpAnyH_ready (rs := [5, 6]) (by kernel_rfl) (by simp) ?_
              refine AllReadyH.cons rfl (fun K hK => ?_) ?_
              · go_simp
                refine (c_byID r.a r.n r.c next.items _ hrn (HNX.out.to' (hb12))).mono ?_
                rintro e x13 ⟨mn, rfl, hm13, g13, hc13⟩
                have hb13 : Below w3.heap.size w3 x13 := bthen (hb12) hc13
                have j2_13 := j2_12.below hc13 j2_12.lt
                have j7_13 := g12.below hc13 g12.lt
                clear hm13
                have hz13 := hb13.size
                have hy13 := hc13.size
                refine hK.out _ _ (by exact (HS.out _ hb13)) (fun hHeld => ?_)
                clear hK K
                (try simp only [Act.put, List.setIfInBounds_toArray, List.set_cons_zero, List.set_cons_succ, List.getElem_toArray, List.getElem_cons_zero, List.getElem_cons_succ])
                refine wpAnyH_ready (rs := [6]) (by kernel_rfl) (by simp) ?_
                refine AllReadyH.cons rfl (fun K hK => ?_) ?_
                · go_simp
                  refine hK.out _ _ (by exact (HS.out _ (balloc hb13 (.cells #[.map none] 82)))) (fun hHeld => ?_)
                  clear hK K
                  (try simp only [Act.put, List.setIfInBounds_toArray, List.set_cons_zero, List.set_cons_succ, List.getElem_toArray, List.getElem_cons_zero, List.getElem_cons_succ])
                  have g14 := (Blk.new x13 82 [.map none])
                  have hb14 := balloc hb13 (.cells #[.map none] 82)
                  have hs14 := hb13.size
                  have j2_14 := (j2_13.alloc (.cells #[.map none] 82))
                  have j5_14 := (g13.alloc (.cells #[.map none] 82))
                  have j7_14 := (j7_13.alloc (.cells #[.map none] 82))
                  generalize hw14 : (x13.alloc (.cells #[.map none] 82)) = x14 at *
                  clear hw14
                  have hl14 := g14.lt
                  obtain ⟨y0, v0⟩ := g14.all1
                  obtain ⟨y1, v1⟩ := j7_14.all1
                  have l0 := g14.lt
                  have l1 := j7_14.lt
                  have hne : x13.heap.size ≠ x1.heap.size := by omega
                  have hne' : x1.heap.size ≠ x13.heap.size := by omega
                  have gX := (g14.one (.map (some mo))).other (p := ⟨x1.heap.size, 0, none⟩) hne (.map (some mn))
                  have gY := (j7_14.other (p := ⟨x13.heap.size, 0, none⟩) hne' (.map (some mo))).one (.map (some mn))
                  have iX := (j2_14.setCell ⟨x13.heap.size, 0, none⟩ (.map (some mo))).setCell ⟨x1.heap.size, 0, none⟩ (.map (some mn))
                  have iY := (j5_14.setCell ⟨x13.heap.size, 0, none⟩ (.map (some mo))).setCell ⟨x1.heap.size, 0, none⟩ (.map (some mn))
                  have hbX := bset (bset hb14 (p := ⟨x13.heap.size, 0, none⟩) (by omega) (.map (some mo))) (p := ⟨x1.heap.size, 0, none⟩) (by omega) (.map (some mn))
                  have HX := hide (And.intro gX (And.intro gY (And.intro iX (And.intro iY hbX))))
                  have hb1X := bset hb14 (p := ⟨x13.heap.size, 0, none⟩) (by omega) (.map (some mo))
                  clear gX gY iX iY
                  refine wpAnyH_ready (rs := [8]) (by kernel_rfl) (by simp) ?_
                  refine AllReadyH.cons rfl (fun K hK => ?_) ?_
                  · go_simp
                    refine hK.out _ _ (by exact (HS.out _ hb1X)) (fun hHeld => ?_)
                    clear hK K
                    (try simp only [Act.put, List.setIfInBounds_toArray, List.set_cons_zero, List.set_cons_succ, List.getElem_toArray, List.getElem_cons_zero, List.getElem_cons_succ])
                    refine wpAnyH_ready (rs := [9]) (by kernel_rfl) (by simp) ?_
                    refine AllReadyH.cons rfl (fun K hK => ?_) ?_
                    · go_simp
                      refine hK.out _ _ (by exact (HS.out _ hbX)) (fun hHeld => ?_)
                      clear hK K
                      (try simp only [Act.put, List.setIfInBounds_toArray, List.set_cons_zero, List.set_cons_succ, List.getElem_toArray, List.getElem_cons_zero, List.getElem_cons_succ])
                      refine wpAnyH_done (by kernel_rfl) ?_ _
                      go_wp2_with fail
                      go_meet
                      obtain ⟨gX, gY, iX, iY, hbX⟩ := HX.out
                      exact ⟨_, _, mo, mn, rfl, rfl, gX, gY, iX, iY, hbX⟩
                    exact AllReadyH.nil
                  exact AllReadyH.nil
                exact AllReadyH.nil
              refine AllReadyH.cons rfl (fun K hK => ?_) ?_
              · go_simp
                refine hK.out _ _ (by exact (HS.out _ (balloc hb12 (.cells #[.map none] 82)))) (fun hHeld => ?_)
                clear hK K
                (try simp only [Act.put, List.setIfInBounds_toArray, List.set_cons_zero, List.set_cons_succ, List.getElem_toArray, List.getElem_cons_zero, List.getElem_cons_succ])
                have g15 := (Blk.new x12 82 [.map none])
                have hb15 := balloc hb12 (.cells #[.map none] 82)
                have hs15 := hb12.size
                have j2_15 := (j2_12.alloc (.cells #[.map none] 82))
                have j7_15 := (g12.alloc (.cells #[.map none] 82))
                generalize hw15 : (x12.alloc (.cells #[.map none] 82)) = x15 at *
                clear hw15
                have hl15 := g15.lt
                refine wpAnyH_ready (rs := [5]) (by kernel_rfl) (by simp) ?_
                refine AllReadyH.cons rfl (fun K hK => ?_) ?_
                · go_simp
                  refine (c_byID r.a r.n r.c next.items _ hrn (HNX.out.to' (hb15))).mono ?_
                  rintro e x16 ⟨mn, rfl, hm16, g16, hc16⟩
                  have hb16 : Below w3.heap.size w3 x16 := bthen (hb15) hc16
                  have j2_16 := j2_15.below hc16 j2_15.lt
                  have j6_16 := g15.below hc16 g15.lt
                  have j7_16 := j7_15.below hc16 j7_15.lt
                  clear hm16
                  have hz16 := hb16.size
                  have hy16 := hc16.size
                  refine hK.out _ _ (by exact (HS.out _ hb16)) (fun hHeld => ?_)
                  clear hK K
                  (try simp only [Act.put, List.setIfInBounds_toArray, List.set_cons_zero, List.set_cons_succ, List.getElem_toArray, List.getElem_cons_zero, List.getElem_cons_succ])
                  obtain ⟨y0, v0⟩ := j6_16.all1
                  obtain ⟨y1, v1⟩ := j7_16.all1
                  have l0 := j6_16.lt
                  have l1 := j7_16.lt
                  have hne : x12.heap.size ≠ x1.heap.size := by omega
                  have hne' : x1.heap.size ≠ x12.heap.size := by omega
                  have gX := (j6_16.one (.map (some mo))).other (p := ⟨x1.heap.size, 0, none⟩) hne (.map (some mn))
                  have gY := (j7_16.other (p := ⟨x12.heap.size, 0, none⟩) hne' (.map (some mo))).one (.map (some mn))
                  have iX := (j2_16.setCell ⟨x12.heap.size, 0, none⟩ (.map (some mo))).setCell ⟨x1.heap.size, 0, none⟩ (.map (some mn))
                  have iY := (g16.setCell ⟨x12.heap.size, 0, none⟩ (.map (some mo))).setCell ⟨x1.heap.size, 0, none⟩ (.map (some mn))
                  have hbX := bset (bset hb16 (p := ⟨x12.heap.size, 0, none⟩) (by omega) (.map (some mo))) (p := ⟨x1.heap.size, 0, none⟩) (by omega) (.map (some mn))
                  have HX := hide (And.intro gX (And.intro gY (And.intro iX (And.intro iY hbX))))
                  have hb1X := bset hb16 (p := ⟨x12.heap.size, 0, none⟩) (by omega) (.map (some mo))
                  clear gX gY iX iY
                  refine wpAnyH_ready (rs := [8]) (by kernel_rfl) (by simp) ?_
                  refine AllReadyH.cons rfl (fun K hK => ?_) ?_
                  · go_simp
                    refine hK.out _ _ (by exact (HS.out _ hb1X)) (fun hHeld => ?_)
                    clear hK K
                    (try simp only [Act.put, List.setIfInBounds_toArray, List.set_cons_zero, List.set_cons_succ, List.getElem_toArray, List.getElem_cons_zero, List.getElem_cons_succ])
                    refine wpAnyH_ready (rs := [9]) (by kernel_rfl) (by simp) ?_
                    refine AllReadyH.cons rfl (fun K hK => ?_) ?_
                    · go_simp
                      refine hK.out _ _ (by exact (HS.out _ hbX)) (fun hHeld => ?_)
                      clear hK K
                      (try simp only [Act.put, List.setIfInBounds_toArray, List.set_cons_zero, List.set_cons_succ, List.getElem_toArray, List.getElem_cons_zero, List.getElem_cons_succ])
                      refine wpAnyH_done (by kernel_rfl) ?_ _
                      go_wp2_with fail
                      go_meet
                      obtain ⟨gX, gY, iX, iY, hbX⟩ := HX.out
                      exact ⟨_, _, mo, mn, rfl, rfl, gX, gY, iX, iY, hbX⟩
                    exact AllReadyH.nil
                  exact AllReadyH.nil
                exact AllReadyH.nil
              exact AllReadyH.nil
            exact AllReadyH.nil
          refine AllReadyH.cons rfl (fun K hK => ?_) ?_
          · go_simp
            refine hK.out _ _ (by exact (HS.out _ (bdrew (balloc (Below.refl w3.heap.size w3) (.cells #[.map none] 82))))) (fun hHeld => ?_)
            clear hK K
            (try simp only [Act.put, List.setIfInBounds_toArray, List.set_cons_zero, List.set_cons_succ, List.getElem_toArray, List.getElem_cons_zero, List.getElem_cons_succ])
            have g17 := (Blk.new w3 82 [.map none]).drew
            have hb17 := bdrew (balloc (Below.refl w3.heap.size w3) (.cells #[.map none] 82))
            have hs17 := (Below.refl w3.heap.size w3).size
            generalize hw17 : (w3.alloc (.cells #[.map none] 82)).drew = x17 at *
            clear hw17
            have hl17 := g17.lt
            refine wpAnyH_ready (rs := [2, 7]) (by kernel_rfl) (by simp) ?_
            refine AllReadyH.cons rfl (fun K hK => ?_) ?_
            · go_simp
              refine (c_byID a1 n1 k1 (itemsOf ms c.mod) _ hn1 (HA.out.to' (hb17))).mono ?_
              rintro e x18 ⟨mo, rfl, hm18, g18, hc18⟩
              have hb18 : Below w3.heap.size w3 x18 := bthen (hb17) hc18
              have j6_18 := g17.below hc18 g17.lt
              clear hm18
              have hz18 := hb18.size
              have hy18 := hc18.size
              refine hK.out _ _ (by exact (HS.out _ hb18)) (fun hHeld => ?_)
              clear hK K
              (try simp only [Act.put, List.setIfInBounds_toArray, List.set_cons_zero, List.set_cons_succ, List.getElem_toArray, List.getElem_cons_zero, List.getElem_cons_succ])
              refine wpAnyH_ready (rs := [5, 7]) (by kernel_rfl) (by simp) ?_
              refine AllReadyH.cons rfl (fun K hK => ?_) ?_
              · go_simp
                refine (c_byID r.a r.n r.c next.items _ hrn (HNX.out.to' (hb18))).mono ?_
                rintro e x19 ⟨mn, rfl, hm19, g19, hc19⟩
                have hb19 : Below w3.heap.size w3 x19 := bthen (hb18) hc19
                have j2_19 := g18.below hc19 g18.lt
                have j6_19 := j6_18.below hc19 j6_18.lt
                clear hm19
                have hz19 := hb19.size
                have hy19 := hc19.size
                refine hK.out _ _ (by exact (HS.out _ hb19)) (fun hHeld => ?_)
                clear hK K
                (try simp only [Act.put, List.setIfInBounds_toArray, List.set_cons_zero, List.set_cons_succ, List.getElem_toArray, List.getElem_cons_zero, List.getElem_cons_succ])
                refine wpAnyH_ready (rs := [7]) (by kernel_rfl) (by simp) ?_
                refine AllReadyH.cons rfl (fun K hK => ?_) ?_
                · go_simp
                  refine hK.out _ _ (by exact (HS.out _ (balloc hb19 (.cells #[.map none] 82)))) (fun hHeld => ?_)
                  clear hK K
                  (try simp only [Act.put, List.setIfInBounds_toArray, List.set_cons_zero, List.set_cons_succ, List.getElem_toArray, List.getElem_cons_zero, List.getElem_cons_succ])
                  have g20 := (Blk.new x19 82 [.map none])
                  have hb20 := balloc hb19 (.cells #[.map none] 82)
                  have hs20 := hb19.size
                  have j2_20 := (j2_19.alloc (.cells #[.map none] 82))
                  have j5_20 := (g19.alloc (.cells #[.map none] 82))
                  have j6_20 := (j6_19.alloc (.cells #[.map none] 82))
                  generalize hw20 : (x19.alloc (.cells #[.map none] 82)) = x20 at *
                  clear hw20
                  have hl20 := g20.lt
                  obtain ⟨y0, v0⟩ := j6_20.all1
                  obtain ⟨y1, v1⟩ := g20.all1
                  have l0 := j6_20.lt
                  have l1 := g20.lt
                  have hne : w3.heap.size ≠ x19.heap.size := by omega
                  have hne' : x19.heap.size ≠ w3.heap.size := by omega
                  have gX := (j6_20.one (.map (some mo))).other (p := ⟨x19.heap.size, 0, none⟩) hne (.map (some mn))
                  have gY := (g20.other (p := ⟨w3.heap.size, 0, none⟩) hne' (.map (some mo))).one (.map (some mn))
                  have iX := (j2_20.setCell ⟨w3.heap.size, 0, none⟩ (.map (some mo))).setCell ⟨x19.heap.size, 0, none⟩ (.map (some mn))
                  have iY := (j5_20.setCell ⟨w3.heap.size, 0, none⟩ (.map (some mo))).setCell ⟨x19.heap.size, 0, none⟩ (.map (some mn))
                  have hbX := bset (bset hb20 (p := ⟨w3.heap.size, 0, none⟩) (by omega) (.map (some mo))) (p := ⟨x19.heap.size, 0, none⟩) (by omega) (.map (some mn))
                  have HX := hide (And.intro gX (And.intro gY (And.intro iX (And.intro iY hbX))))
                  have hb1X := bset hb20 (p := ⟨w3.heap.size, 0, none⟩) (by omega) (.map (some mo))
                  clear gX gY iX iY
                  refine wpAnyH_ready (rs := [8]) (by kernel_rfl) (by simp) ?_
                  refine AllReadyH.cons rfl (fun K hK => ?_) ?_
                  · go_simp
                    refine hK.out _ _ (by exact (HS.out _ hb1X)) (fun hHeld => ?_)
                    clear hK K
                    (try simp only [Act.put, List.setIfInBounds_toArray, List.set_cons_zero, List.set_cons_succ, List.getElem_toArray, List.getElem_cons_zero, List.getElem_cons_succ])
                    refine wpAnyH_ready (rs := [9]) (by kernel_rfl) (by simp) ?_
                    refine AllReadyH.cons rfl (fun K hK => ?_) ?_
                    · go_simp
                      refine hK.out _ _ (by exact (HS.out _ hbX)) (fun hHeld => ?_)
                      clear hK K
                      (try simp only [Act.put, List.setIfInBounds_toArray, List.set_cons_zero, List.set_cons_succ, List.getElem_toArray, List.getElem_cons_zero, List.getElem_cons_succ])
                      refine wpAnyH_done (by kernel_rfl) ?_ _
                      go_wp2_with fail
                      go_meet
                      obtain ⟨gX, gY, iX, iY, hbX⟩ := HX.out
                      exact ⟨_, _, mo, mn, rfl, rfl, gX, gY, iX, iY, hbX⟩
                    exact AllReadyH.nil
                  exact AllReadyH.nil
                exact AllReadyH.nil
              refine AllReadyH.cons rfl (fun K hK => ?_) ?_
              · go_simp
                refine hK.out _ _ (by exact (HS.out _ (balloc hb18 (.cells #[.map none] 82)))) (fun hHeld => ?_)
                clear hK K
                (try simp only [Act.put, List.setIfInBounds_toArray, List.set_cons_zero, List.set_cons_succ, List.getElem_toArray, List.getElem_cons_zero, List.getElem_cons_succ])
                have g21 := (Blk.new x18 82 [.map none])
                have hb21 := balloc hb18 (.cells #[.map none] 82)
                have hs21 := hb18.size
                have j2_21 := (g18.alloc (.cells #[.map none] 82))
                have j6_21 := (j6_18.alloc (.cells #[.map none] 82))
                generalize hw21 : (x18.alloc (.cells #[.map none] 82)) = x21 at *
                clear hw21
                have hl21 := g21.lt
                refine wpAnyH_ready (rs := [5]) (by kernel_rfl) (by simp) ?_
                refine AllReadyH.cons rfl (fun K hK => ?_) ?_
                · go_simp
                  refine (c_byID r.a r.n r.c next.items _ hrn (HNX.out.to' (hb21))).mono ?_
                  rintro e x22 ⟨mn, rfl, hm22, g22, hc22⟩
                  have hb22 : Below w3.heap.size w3 x22 := bthen (hb21) hc22
                  have j2_22 := j2_21.below hc22 j2_21.lt
                  have j6_22 := j6_21.below hc22 j6_21.lt
                  have j7_22 := g21.below hc22 g21.lt
                  clear hm22
                  have hz22 := hb22.size
                  have hy22 := hc22.size
                  refine hK.out _ _ (by exact (HS.out _ hb22)) (fun hHeld => ?_)
                  clear hK K
                  (try simp only [Act.put, List.setIfInBounds_toArray, List.set_cons_zero, List.set_cons_succ, List.getElem_toArray, List.getElem_cons_zero, List.getElem_cons_succ])
                  obtain ⟨y0, v0⟩ := j6_22.all1
                  obtain ⟨y1, v1⟩ := j7_22.all1
                  have l0 := j6_22.lt
                  have l1 := j7_22.lt
                  have hne : w3.heap.size ≠ x18.heap.size := by omega
                  have hne' : x18.heap.size ≠ w3.heap.size := by omega
                  have gX := (j6_22.one (.map (some mo))).other (p := ⟨x18.heap.size, 0, none⟩) hne (.map (some mn))
                  have gY := (j7_22.other (p := ⟨w3.heap.size, 0, none⟩) hne' (.map (some mo))).one (.map (some mn))
                  have iX := (j2_22.setCell ⟨w3.heap.size, 0, none⟩ (.map (some mo))).setCell ⟨x18.heap.size, 0, none⟩ (.map (some mn))
                  have iY := (g22.setCell ⟨w3.heap.size, 0, none⟩ (.map (some mo))).setCell ⟨x18.heap.size, 0, none⟩ (.map (some mn))
                  have hbX := bset (bset hb22 (p := ⟨w3.heap.size, 0, none⟩) (by omega) (.map (some mo))) (p := ⟨x18.heap.size, 0, none⟩) (by omega) (.map (some mn))
                  have HX := hide (And.intro gX (And.intro gY (And.intro iX (And.intro iY hbX))))
                  have hb1X := bset hb22 (p := ⟨w3.heap.size, 0, none⟩) (by omega) (.map (some mo))
                  clear gX gY iX iY
                  refine wpAnyH_ready (rs := [8]) (by kernel_rfl) (by simp) ?_
                  refine AllReadyH.cons rfl (fun K hK => ?_) ?_
                  · go_simp
                    refine hK.out _ _ (by exact (HS.out _ hb1X)) (fun hHeld => ?_)
                    clear hK K
                    (try simp only [Act.put, List.setIfInBounds_toArray, List.set_cons_zero, List.set_cons_succ, List.getElem_toArray, List.getElem_cons_zero, List.getElem_cons_succ])
                    refine wpAnyH_ready (rs := [9]) (by kernel_rfl) (by simp) ?_
                    refine AllReadyH.cons rfl (fun K hK => ?_) ?_
                    · go_simp
                      refine hK.out _ _ (by exact (HS.out _ hbX)) (fun hHeld => ?_)
                      clear hK K
                      (try simp only [Act.put, List.setIfInBounds_toArray, List.set_cons_zero, List.set_cons_succ, List.getElem_toArray, List.getElem_cons_zero, List.getElem_cons_succ])
                      refine wpAnyH_done (by kernel_rfl) ?_ _
                      go_wp2_with fail
                      go_meet
                      obtain ⟨gX, gY, iX, iY, hbX⟩ := HX.out
                      exact ⟨_, _, mo, mn, rfl, rfl, gX, gY, iX, iY, hbX⟩
                    exact AllReadyH.nil
                  exact AllReadyH.nil
                exact AllReadyH.nil
              exact AllReadyH.nil
            refine AllReadyH.cons rfl (fun K hK => ?_) ?_
            · go_simp
              refine hK.out _ _ (by exact (HS.out _ (balloc hb17 (.cells #[.map none] 82)))) (fun hHeld => ?_)
              clear hK K
              (try simp only [Act.put, List.setIfInBounds_toArray, List.set_cons_zero, List.set_cons_succ, List.getElem_toArray, List.getElem_cons_zero, List.getElem_cons_succ])
              have g23 := (Blk.new x17 82 [.map none])
              have hb23 := balloc hb17 (.cells #[.map none] 82)
              have hs23 := hb17.size
              have j6_23 := (g17.alloc (.cells #[.map none] 82))
              generalize hw23 : (x17.alloc (.cells #[.map none] 82)) = x23 at *
              clear hw23
              have hl23 := g23.lt
              refine wpAnyH_ready (rs := [2]) (by kernel_rfl) (by simp) ?_
              refine AllReadyH.cons rfl (fun K hK => ?_) ?_
              · go_simp
                refine (c_byID a1 n1 k1 (itemsOf ms c.mod) _ hn1 (HA.out.to' (hb23))).mono ?_
                rintro e x24 ⟨mo, rfl, hm24, g24, hc24⟩
                have hb24 : Below w3.heap.size w3 x24 := bthen (hb23) hc24
                have j6_24 := j6_23.below hc24 j6_23.lt
                have j7_24 := g23.below hc24 g23.lt
                clear hm24
                have hz24 := hb24.size
                have hy24 := hc24.size
                refine hK.out _ _ (by exact (HS.out _ hb24)) (fun hHeld => ?_)
                clear hK K
                (try simp only [Act.put, List.setIfInBounds_toArray, List.set_cons_zero, List.set_cons_succ, List.getElem_toArray, List.getElem_cons_zero, List.getElem_cons_succ])
                refine wpAnyH_ready (rs := [5]) (by kernel_rfl) (by simp) ?_
                refine AllReadyH.cons rfl (fun K hK => ?_) ?_
                · go_simp
                  refine (c_byID r.a r.n r.c next.items _ hrn (HNX.out.to' (hb24))).mono ?_
                  rintro e x25 ⟨mn, rfl, hm25, g25, hc25⟩
                  have hb25 : Below w3.heap.size w3 x25 := bthen (hb24) hc25
                  have j2_25 := g24.below hc25 g24.lt
                  have j6_25 := j6_24.below hc25 j6_24.lt
                  have j7_25 := j7_24.below hc25 j7_24.lt
                  clear hm25
                  have hz25 := hb25.size
                  have hy25 := hc25.size
                  refine hK.out _ _ (by exact (HS.out _ hb25)) (fun hHeld => ?_)
                  clear hK K
                  (try simp only [Act.put, List.setIfInBounds_toArray, List.set_cons_zero, List.set_cons_succ, List.getElem_toArray, List.getElem_cons_zero, List.getElem_cons_succ])
                  obtain ⟨y0, v0⟩ := j6_25.all1
                  obtain ⟨y1, v1⟩ := j7_25.all1
                  have l0 := j6_25.lt
                  have l1 := j7_25.lt
                  have hne : w3.heap.size ≠ x17.heap.size := by omega
                  have hne' : x17.heap.size ≠ w3.heap.size := by omega
                  have gX := (j6_25.one (.map (some mo))).other (p := ⟨x17.heap.size, 0, none⟩) hne (.map (some mn))
                  have gY := (j7_25.other (p := ⟨w3.heap.size, 0, none⟩) hne' (.map (some mo))).one (.map (some mn))
                  have iX := (j2_25.setCell ⟨w3.heap.size, 0, none⟩ (.map (some mo))).setCell ⟨x17.heap.size, 0, none⟩ (.map (some mn))
                  have iY := (g25.setCell ⟨w3.heap.size, 0, none⟩ (.map (some mo))).setCell ⟨x17.heap.size, 0, none⟩ (.map (some mn))
                  have hbX := bset (bset hb25 (p := ⟨w3.heap.size, 0, none⟩) (by omega) (.map (some mo))) (p := ⟨x17.heap.size, 0, none⟩) (by omega) (.map (some mn))
                  have HX := hide (And.intro gX (And.intro gY (And.intro iX (And.intro iY hbX))))
                  have hb1X := bset hb25 (p := ⟨w3.heap.size, 0, none⟩) (by omega) (.map (some mo))
                  clear gX gY iX iY
                  refine wpAnyH_ready (rs := [8]) (by kernel_rfl) (by simp) ?_
                  refine AllReadyH.cons rfl (fun K hK => ?_) ?_
                  · go_simp
                    refine hK.out _ _ (by exact (HS.out _ hb1X)) (fun hHeld => ?_)
                    clear hK K
                    (try simp only [Act.put, List.setIfInBounds_toArray, List.set_cons_zero, List.set_cons_succ, List.getElem_toArray, List.getElem_cons_zero, List.getElem_cons_succ])
                    refine wpAnyH_ready (rs := [9]) (by kernel_rfl) (by simp) ?_
                    refine AllReadyH.cons rfl (fun K hK => ?_) ?_
                    · go_simp
                      refine hK.out _ _ (by exact (HS.out _ hbX)) (fun hHeld => ?_)
                      clear hK K
                      (try simp only [Act.put, List.setIfInBounds_toArray, List.set_cons_zero, List.set_cons_succ, List.getElem_toArray, List.getElem_cons_zero, List.getElem_cons_succ])
                      refine wpAnyH_done (by kernel_rfl) ?_ _
                      go_wp2_with fail
                      go_meet
                      obtain ⟨gX, gY, iX, iY, hbX⟩ := HX.out
                      exact ⟨_, _, mo, mn, rfl, rfl, gX, gY, iX, iY, hbX⟩
                    exact AllReadyH.nil
                  exact AllReadyH.nil
                exact AllReadyH.nil
              exact AllReadyH.nil
            exact AllReadyH.nil
          refine AllReadyH.cons rfl (fun K hK => ?_) ?_
          · go_simp
            refine hK.out _ _ (by exact (HS.out _ (bdrew (balloc (Below.refl w3.heap.size w3) (.cells #[.map none] 82))))) (fun hHeld => ?_)
            clear hK K
            (try simp only [Act.put, List.setIfInBounds_toArray, List.set_cons_zero, List.set_cons_succ, List.getElem_toArray, List.getElem_cons_zero, List.getElem_cons_succ])
            have g26 := (Blk.new w3 82 [.map none]).drew
            have hb26 := bdrew (balloc (Below.refl w3.heap.size w3) (.cells #[.map none] 82))
            have hs26 := (Below.refl w3.heap.size w3).size
            generalize hw26 : (w3.alloc (.cells #[.map none] 82)).drew = x26 at *
            clear hw26
            have hl26 := g26.lt
            refine wpAnyH_ready (rs := [2, 6]) (by kernel_rfl) (by simp) ?_
            refine AllReadyH.cons rfl (fun K hK => ?_) ?_
            · go_simp
              refine (c_byID a1 n1 k1 (itemsOf ms c.mod) _ hn1 (HA.out.to' (hb26))).mono ?_
              rintro e x27 ⟨mo, rfl, hm27, g27, hc27⟩
              have hb27 : Below w3.heap.size w3 x27 := bthen (hb26) hc27
              have j7_27 := g26.below hc27 g26.lt
              clear hm27
              have hz27 := hb27.size
              have hy27 := hc27.size
              refine hK.out _ _ (by exact (HS.out _ hb27)) (fun hHeld => ?_)
              clear hK K
              (try simp only [Act.put, List.setIfInBounds_toArray, List.set_cons_zero, List.set_cons_succ, List.getElem_toArray, List.getElem_cons_zero, List.getElem_cons_succ])
              refine wpAnyH_ready (rs := [5, 6]) (by kernel_rfl) (by simp) ?_
              refine AllReadyH.cons rfl (fun K hK => ?_) ?_
              · go_simp
                refine (c_byID r.a r.n r.c next.items _ hrn (HNX.out.to' (hb27))).mono ?_
                rintro e x28 ⟨mn, rfl, hm28, g28, hc28⟩
                have hb28 : Below w3.heap.size w3 x28 := bthen (hb27) hc28
                have j2_28 := g27.below hc28 g27.lt
                have j7_28 := j7_27.below hc28 j7_27.lt
                clear hm28
                have hz28 := hb28.size
                have hy28 := hc28.size
                refine hK.out _ _ (by exact (HS.out _ hb28)) (fun hHeld => ?_)
                clear hK K
                (try simp only [Act.put, List.setIfInBounds_toArray, List.set_cons_zero, List.set_cons_succ, List.getElem_toArray, List.getElem_cons_zero, List.getElem_cons_succ])
                refine wpAnyH_ready (rs := [6]) (by kernel_rfl) (by simp) ?_
                refine AllReadyH.cons rfl (fun K hK => ?_) ?_
                · go_simp
                  refine hK.out _ _ (by exact (HS.out _ (balloc hb28 (.cells #[.map none] 82)))) (fun hHeld => ?_)
                  clear hK K
                  (try simp only [Act.put, List.setIfInBounds_toArray, List.set_cons_zero, List.set_cons_succ, List.getElem_toArray, List.getElem_cons_zero, List.getElem_cons_succ])
                  have g29 := (Blk.new x28 82 [.map none])
                  have hb29 := balloc hb28 (.cells #[.map none] 82)
                  have hs29 := hb28.size
                  have j2_29 := (j2_28.alloc (.cells #[.map none] 82))
                  have j5_29 := (g28.alloc (.cells #[.map none] 82))
                  have j7_29 := (j7_28.alloc (.cells #[.map none] 82))
                  generalize hw29 : (x28.alloc (.cells #[.map none] 82)) = x29 at *
                  clear hw29
                  have hl29 := g29.lt
                  obtain ⟨y0, v0⟩ := g29.all1
                  obtain ⟨y1, v1⟩ := j7_29.all1
                  have l0 := g29.lt
                  have l1 := j7_29.lt
                  have hne : x28.heap.size ≠ w3.heap.size := by omega
                  have hne' : w3.heap.size ≠ x28.heap.size := by omega
                  have gX := (g29.one (.map (some mo))).other (p := ⟨w3.heap.size, 0, none⟩) hne (.map (some mn))
                  have gY := (j7_29.other (p := ⟨x28.heap.size, 0, none⟩) hne' (.map (some mo))).one (.map (some mn))
                  have iX := (j2_29.setCell ⟨x28.heap.size, 0, none⟩ (.map (some mo))).setCell ⟨w3.heap.size, 0, none⟩ (.map (some mn))
                  have iY := (j5_29.setCell ⟨x28.heap.size, 0, none⟩ (.map (some mo))).setCell ⟨w3.heap.size, 0, none⟩ (.map (some mn))
                  have hbX := bset (bset hb29 (p := ⟨x28.heap.size, 0, none⟩) (by omega) (.map (some mo))) (p := ⟨w3.heap.size, 0, none⟩) (by omega) (.map (some mn))
                  have HX := hide (And.intro gX (And.intro gY (And.intro iX (And.intro iY hbX))))
                  have hb1X := bset hb29 (p := ⟨x28.heap.size, 0, none⟩) (by omega) (.map (some mo))
                  clear gX gY iX iY
                  refine wpAnyH_ready (rs := [8]) (by kernel_rfl) (by simp) ?_
                  refine AllReadyH.cons rfl (fun K hK => ?_) ?_
                  · go_simp
                    refine hK.out _ _ (by exact (HS.out _ hb1X)) (fun hHeld => ?_)
                    clear hK K
                    (try simp only [Act.put, List.setIfInBounds_toArray, List.set_cons_zero, List.set_cons_succ, List.getElem_toArray, List.getElem_cons_zero, List.getElem_cons_succ])
                    refine wpAnyH_ready (rs := [9]) (by kernel_rfl) (by simp) ?_
                    refine AllReadyH.cons rfl (fun K hK => ?_) ?_
                    · go_simp
                      refine hK.out _ _ (by exact (HS.out _ hbX)) (fun hHeld => ?_)
                      clear hK K
                      (try simp only [Act.put, List.setIfInBounds_toArray, List.set_cons_zero, List.set_cons_succ, List.getElem_toArray, List.getElem_cons_zero, List.getElem_cons_succ])
                      refine wpAnyH_done (by kernel_rfl) ?_ _
                      go_wp2_with fail
                      go_meet
                      obtain ⟨gX, gY, iX, iY, hbX⟩ := HX.out
                      exact ⟨_, _, mo, mn, rfl, rfl, gX, gY, iX, iY, hbX⟩
                    exact AllReadyH.nil
                  exact AllReadyH.nil
                exact AllReadyH.nil
              refine AllReadyH.cons rfl (fun K hK => ?_) ?_
              · go_simp
                refine hK.out _ _ (by exact (HS.out _ (balloc hb27 (.cells #[.map none] 82)))) (fun hHeld => ?_)
                clear hK K
                (try simp only [Act.put, List.setIfInBounds_toArray, List.set_cons_zero, List.set_cons_succ, List.getElem_toArray, List.getElem_cons_zero, List.getElem_cons_succ])
                have g30 := (Blk.new x27 82 [.map none])
                have hb30 := balloc hb27 (.cells #[.map none] 82)
                have hs30 := hb27.size
                have j2_30 := (g27.alloc (.cells #[.map none] 82))
                have j7_30 := (j7_27.alloc (.cells #[.map none] 82))
                generalize hw30 : (x27.alloc (.cells #[.map none] 82)) = x30 at *
                clear hw30
                have hl30 := g30.lt
                refine wpAnyH_ready (rs := [5]) (by kernel_rfl) (by simp) ?_
                refine AllReadyH.cons rfl (fun K hK => ?_) ?_
                · go_simp
                  refine (c_byID r.a r.n r.c next.items _ hrn (HNX.out.to' (hb30))).mono ?_
                  rintro e x31 ⟨mn, rfl, hm31, g31, hc31⟩
                  have hb31 : Below w3.heap.size w3 x31 := bthen (hb30) hc31
                  have j2_31 := j2_30.below hc31 j2_30.lt
                  have j6_31 := g30.below hc31 g30.lt
                  have j7_31 := j7_30.below hc31 j7_30.lt
                  clear hm31
                  have hz31 := hb31.size
                  have hy31 := hc31.size
                  refine hK.out _ _ (by exact (HS.out _ hb31)) (fun hHeld => ?_)
                  clear hK K
                  (try simp only [Act.put, List.setIfInBounds_toArray, List.set_cons_zero, List.set_cons_succ, List.getElem_toArray, List.getElem_cons_zero, List.getElem_cons_succ])
                  obtain ⟨y0, v0⟩ := j6_31.all1
                  obtain ⟨y1, v1⟩ := j7_31.all1
                  have l0 := j6_31.lt
                  have l1 := j7_31.lt
                  have hne : x27.heap.size ≠ w3.heap.size := by omega
                  have hne' : w3.heap.size ≠ x27.heap.size := by omega
                  have gX := (j6_31.one (.map (some mo))).other (p := ⟨w3.heap.size, 0, none⟩) hne (.map (some mn))
                  have gY := (j7_31.other (p := ⟨x27.heap.size, 0, none⟩) hne' (.map (some mo))).one (.map (some mn))
                  have iX := (j2_31.setCell ⟨x27.heap.size, 0, none⟩ (.map (some mo))).setCell ⟨w3.heap.size, 0, none⟩ (.map (some mn))
                  have iY := (g31.setCell ⟨x27.heap.size, 0, none⟩ (.map (some mo))).setCell ⟨w3.heap.size, 0, none⟩ (.map (some mn))
                  have hbX := bset (bset hb31 (p := ⟨x27.heap.size, 0, none⟩) (by omega) (.map (some mo))) (p := ⟨w3.heap.size, 0, none⟩) (by omega) (.map (some mn))
                  have HX := hide (And.intro gX (And.intro gY (And.intro iX (And.intro iY hbX))))
                  have hb1X := bset hb31 (p := ⟨x27.heap.size, 0, none⟩) (by omega) (.map (some mo))
                  clear gX gY iX iY
                  refine wpAnyH_ready (rs := [8]) (by kernel_rfl) (by simp) ?_
                  refine AllReadyH.cons rfl (fun K hK => ?_) ?_
                  · go_simp
                    refine hK.out _ _ (by exact (HS.out _ hb1X)) (fun hHeld => ?_)
                    clear hK K
                    (try simp only [Act.put, List.setIfInBounds_toArray, List.set_cons_zero, List.set_cons_succ, List.getElem_toArray, List.getElem_cons_zero, List.getElem_cons_succ])
                    refine wpAnyH_ready (rs := [9]) (by kernel_rfl) (by simp) ?_
                    refine AllReadyH.cons rfl (fun K hK => ?_) ?_
                    · go_simp
                      refine hK.out _ _ (by exact (HS.out _ hbX)) (fun hHeld => ?_)
                      clear hK K
                      (try simp only [Act.put, List.setIfInBounds_toArray, List.set_cons_zero, List.set_cons_succ, List.getElem_toArray, List.getElem_cons_zero, List.getElem_cons_succ])
                      refine wpAnyH_done (by kernel_rfl) ?_ _
                      go_wp2_with fail
                      go_meet
                      obtain ⟨gX, gY, iX, iY, hbX⟩ := HX.out
                      exact ⟨_, _, mo, mn, rfl, rfl, gX, gY, iX, iY, hbX⟩
                    exact AllReadyH.nil
                  exact AllReadyH.nil
                exact AllReadyH.nil
              exact AllReadyH.nil
            refine AllReadyH.cons rfl (fun K hK => ?_) ?_
            · go_simp
              refine hK.out _ _ (by exact (HS.out _ (balloc hb26 (.cells #[.map none] 82)))) (fun hHeld => ?_)
              clear hK K
              (try simp only [Act.put, List.setIfInBounds_toArray, List.set_cons_zero, List.set_cons_succ, List.getElem_toArray, List.getElem_cons_zero, List.getElem_cons_succ])
              have g32 := (Blk.new x26 82 [.map none])
              have hb32 := balloc hb26 (.cells #[.map none] 82)
              have hs32 := hb26.size
              have j7_32 := (g26.alloc (.cells #[.map none] 82))
              generalize hw32 : (x26.alloc (.cells #[.map none] 82)) = x32 at *
              clear hw32
              have hl32 := g32.lt
              refine wpAnyH_ready (rs := [2]) (by kernel_rfl) (by simp) ?_
              refine AllReadyH.cons rfl (fun K hK => ?_) ?_
              · go_simp
                refine (c_byID a1 n1 k1 (itemsOf ms c.mod) _ hn1 (HA.out.to' (hb32))).mono ?_
                rintro e x33 ⟨mo, rfl, hm33, g33, hc33⟩
                have hb33 : Below w3.heap.size w3 x33 := bthen (hb32) hc33
                have j6_33 := g32.below hc33 g32.lt
                have j7_33 := j7_32.below hc33 j7_32.lt
                clear hm33
                have hz33 := hb33.size
                have hy33 := hc33.size
                refine hK.out _ _ (by exact (HS.out _ hb33)) (fun hHeld => ?_)
                clear hK K
                (try simp only [Act.put, List.setIfInBounds_toArray, List.set_cons_zero, List.set_cons_succ, List.getElem_toArray, List.getElem_cons_zero, List.getElem_cons_succ])
                refine wpAnyH_ready (rs := [5]) (by kernel_rfl) (by simp) ?_
                refine AllReadyH.cons rfl (fun K hK => ?_) ?_
                · go_simp
                  refine (c_byID r.a r.n r.c next.items _ hrn (HNX.out.to' (hb33))).mono ?_
                  rintro e x34 ⟨mn, rfl, hm34, g34, hc34⟩
                  have hb34 : Below w3.heap.size w3 x34 := bthen (hb33) hc34
                  have j2_34 := g33.below hc34 g33.lt
                  have j6_34 := j6_33.below hc34 j6_33.lt
                  have j7_34 := j7_33.below hc34 j7_33.lt
                  clear hm34
                  have hz34 := hb34.size
                  have hy34 := hc34.size
                  refine hK.out _ _ (by exact (HS.out _ hb34)) (fun hHeld => ?_)
                  clear hK K
                  (try simp only [Act.put, List.setIfInBounds_toArray, List.set_cons_zero, List.set_cons_succ, List.getElem_toArray, List.getElem_cons_zero, List.getElem_cons_succ])
                  obtain ⟨y0, v0⟩ := j6_34.all1
                  obtain ⟨y1, v1⟩ := j7_34.all1
                  have l0 := j6_34.lt
                  have l1 := j7_34.lt
                  have hne : x26.heap.size ≠ w3.heap.size := by omega
                  have hne' : w3.heap.size ≠ x26.heap.size := by omega
                  have gX := (j6_34.one (.map (some mo))).other (p := ⟨w3.heap.size, 0, none⟩) hne (.map (some mn))
                  have gY := (j7_34.other (p := ⟨x26.heap.size, 0, none⟩) hne' (.map (some mo))).one (.map (some mn))
                  have iX := (j2_34.setCell ⟨x26.heap.size, 0, none⟩ (.map (some mo))).setCell ⟨w3.heap.size, 0, none⟩ (.map (some mn))
                  have iY := (g34.setCell ⟨x26.heap.size, 0, none⟩ (.map (some mo))).setCell ⟨w3.heap.size, 0, none⟩ (.map (some mn))
                  have hbX := bset (bset hb34 (p := ⟨x26.heap.size, 0, none⟩) (by omega) (.map (some mo))) (p := ⟨w3.heap.size, 0, none⟩) (by omega) (.map (some mn))
                  have HX := hide (And.intro gX (And.intro gY (And.intro iX (And.intro iY hbX))))
                  have hb1X := bset hb34 (p := ⟨x26.heap.size, 0, none⟩) (by omega) (.map (some mo))
                  clear gX gY iX iY
                  refine wpAnyH_ready (rs := [8]) (by kernel_rfl) (by simp) ?_
                  refine AllReadyH.cons rfl (fun K hK => ?_) ?_
                  · go_simp
                    refine hK.out _ _ (by exact (HS.out _ hb1X)) (fun hHeld => ?_)
                    clear hK K
                    (try simp only [Act.put, List.setIfInBounds_toArray, List.set_cons_zero, List.set_cons_succ, List.getElem_toArray, List.getElem_cons_zero, List.getElem_cons_succ])
                    refine wpAnyH_ready (rs := [9]) (by kernel_rfl) (by simp) ?_
                    refine AllReadyH.cons rfl (fun K hK => ?_) ?_
                    · go_simp
                      refine hK.out _ _ (by exact (HS.out _ hbX)) (fun hHeld => ?_)
                      clear hK K
                      (try simp only [Act.put, List.setIfInBounds_toArray, List.set_cons_zero, List.set_cons_succ, List.getElem_toArray, List.getElem_cons_zero, List.getElem_cons_succ])
                      refine wpAnyH_done (by kernel_rfl) ?_ _
                      go_wp2_with fail
                      go_meet
                      obtain ⟨gX, gY, iX, iY, hbX⟩ := HX.out
                      exact ⟨_, _, mo, mn, rfl, rfl, gX, gY, iX, iY, hbX⟩
                    exact AllReadyH.nil
                  exact AllReadyH.nil
                exact AllReadyH.nil
              exact AllReadyH.nil
            exact AllReadyH.nil
          exact AllReadyH.nil
        case rest =>
          obtain ⟨w4, rfl⟩ : ∃ w4 : World, w4 = wc := ⟨_, rfl⟩
          obtain ⟨bo, bn, mo, mn, rfl, rfl, gO, gW, iO, iN, hb34⟩ := hcut
          obtain ⟨old, hold⟩ : ∃ o, o = byL (itemsOf ms c.mod) := ⟨_, rfl⟩
          obtain ⟨now, hnow⟩ : ∃ o, o = byL next.items := ⟨_, rfl⟩
          rw [← hold] at iO
          rw [← hnow] at iN
          obtain ⟨gM3, gN3, gC3, gZ3, hbw3⟩ := HB3.out
          obtain ⟨hC3, -⟩ := HC3.out
          obtain ⟨hceq, ⟨hcn, hcc, hs1⟩, ⟨hcn2, hcc2, hs2⟩⟩ := hC3.to hb34
          have gC4 := gC3.below hb34 gC3.lt
          have gZ4 := gZ3.below hb34 gZ3.lt
          have hbw4 := bthen hbw3 hb34
          have hl1 := hs1.lenI
          have hl2 := hs2.lenN
          obtain ⟨hn12, hn100⟩ := HLen.out
          rw [hl1] at hn12
          rw [hl2] at hn100
          obtain ⟨x0, x1, x2, x3, x4, x5⟩ := gC4.allC
          have hcl := gC4.lt
          have hcl1 : w.heap.size < w4.heap.size := by omega
          have hcl2 : w.heap.size + 1 < w4.heap.size + 1 := by omega
          have hcl3 : w.heap.size + 1 < w4.heap.size + 1 + 1 := by omega
          have eg := enters_of Try.func42 (by kernel_rfl) rfl
          have gU5 := (Blk.new w4 45 [.int .i64 rc.code, .int .i64 rc.mod, .int .i64 rc.x, .int .i64 rc.y, .slice none 0 0, .slice none 0 0]).alloc (.cells #[.slice none 0 0] 28)
          have gT5 := Blk.new (w4.alloc (.cells #[.int .i64 rc.code, .int .i64 rc.mod, .int .i64 rc.x, .int .i64 rc.y, .slice none 0 0, .slice none 0 0] 45)) 28 [.slice none 0 0]
          rw [show (w4.alloc (.cells #[.int .i64 rc.code, .int .i64 rc.mod, .int .i64 rc.x, .int .i64 rc.y, .slice none 0 0, .slice none 0 0] 45)).heap.size = w4.heap.size + 1 from by simp] at gT5
          have hb45 := balloc (balloc (Below.refl w4.heap.size w4) (.cells #[.int .i64 rc.code, .int .i64 rc.mod, .int .i64 rc.x, .int .i64 rc.y, .slice none 0 0, .slice none 0 0] 45)) (.cells #[.slice none 0 0] 28)
          have hR5 : RebI w4 ⟨rc.code, rc.mod, rc.x, rc.y, [], []⟩ (.slice none 0 0) (.slice none 0 0) (.slice none 0 0) [] [] [] ((w4.alloc (.cells #[.int .i64 rc.code, .int .i64 rc.mod, .int .i64 rc.x, .int .i64 rc.y, .slice none 0 0, .slice none 0 0] 45)).alloc (.cells #[.slice none 0 0] 28)) :=
            ⟨gU5, gT5, World.ownsRow_nil _ _ _ _, World.ownsRow_nil _ _ _ _, World.ownsRow_nil _ _ _ _, fun g h => (by cases h), hb45⟩
          have HR5 := hide hR5
          have HM := hide (And.intro gO (And.intro gW (And.intro iO iN)))
          have HE := hide (And.intro hceq (And.intro hold (And.intro hnow (And.intro hl1 (And.intro hl2 (And.intro gZ4 hbw4))))))
          have HS0 := hide (And.intro hs1 hs2)
          clear gM3 gN3 gC3 gZ3 hbw3 hC3 HC3 HB3 HS HA HNX gC4 gZ4 hbw4 hl1 hl2 gU5 gT5 hb45 hR5 gO gW iO iN hceq hold hnow hs1 hs2 hb34 HLen HG
          go_wp2_with fail
          go_loopw [72] (fun i wr => ∃ q : Nat, q ≤ rc.n ∧ i = .int .i64 q ∧ ∃ vch vct, RebI w4 ⟨rc.code, rc.mod, rc.x, rc.y, [], []⟩ vch (.slice none 0 0) vct ((c.changes.take q).filter (changedB now)) [] (((c.changes.take q).map (·.id)).filter (cntB old now)) wr) (fun i _ => rc.n - (intOf i).toNat)
          case atStart => exact ⟨0, by omega, rfl, _, _, HR5.out⟩
          case round =>
            obtain ⟨q, hq, rfl, vch, vct, hR⟩ := hrel
            by_cases hlt : q < rc.n
            · have hqi : (q : Int) < (rc.n : Int) := by omega
              have hqk : q < c.changes.length := by rw [HE.out.2.2.2.1]; exact hlt
              obtain ⟨b, off, hAe, hbb, y0, y1, y2, y3, y4, y5⟩ := HS0.out.1.atI hR.b hqk
              have HS1 := hide (filt_snoc (changedB now) c.changes q hqk)
              have HS2 := hide (show (((c.changes.take (q + 1)).map (·.id)).filter (cntB old now)) = cntL old now (((c.changes.take q).map (·.id)).filter (cntB old now)) c.changes[q].id from by rw [List.take_succ_eq_append_getElem hqk, List.map_append, cntL_snoc]; rfl)
              have hLl : ((c.changes.take q).filter (changedB now)).length ≤ 12 := Nat.le_trans (List.length_filter_le _ _) (by rw [List.length_take]; omega)
              have hLt : (((c.changes.take q).map (·.id)).filter (cntB old now)).length ≤ 1000000 := Nat.le_trans (List.length_filter_le _ _) (by rw [List.length_map, List.length_take]; omega)
              rw [hAe] at *
              clear hAe
              generalize (c.changes.take q).filter (changedB now) = Lch at *
              generalize ((c.changes.take q).map (·.id)).filter (cntB old now) = Lct at *
              generalize c.changes[q] = s at *
              clear hqk
              obtain ⟨gO, gW, iO, iN⟩ := HM.out
              have hR1 := hR.to (balloc (Below.refl _ _) (.cells (cI s).toArray 36))
              have gX1 := Blk.new wr 36 (cI s)
              have hk := c_contest bo bn (w4.heap.size + 1) mo mn w4.heap.size vct Lct old now s.id (wr.alloc (.cells (cI s).toArray 36)) (gO.below hR1.b gO.lt).all1.1 (gW.below hR1.b gW.lt).all1.1 (iO.below hR1.b iO.lt) (iN.below hR1.b iN.lt) hR1.t hR1.ct hR1.b.size hLt
              have hn1 : wr.heap.size ≠ w4.heap.size + 1 := by have := hR.t.lt; omega
              have hn2 : some wr.heap.size ≠ vct.ownBlock := fun e => by have := (own_lt hR.ct _ e.symm).2; omega
              have HR1 := hide (And.intro hR1 (And.intro gX1 (And.intro hn1 hn2)))
              clear gO gW iO iN hR hR1 gX1 hn1 hn2
              go_wp2_with fail
              refine hk.mono ?_
              clear hk
              rintro e w6 ⟨rfl, v', gT6, ho6, hk6, hor6⟩
              obtain ⟨hR1, gX1, hn1, hn2⟩ := HR1.out
              have hR6 := hR1.cont gT6 ho6 hk6 hor6
              have gX6 := hk6.blk gX1 hn1 hn2
              obtain ⟨_, gW, _, iN⟩ := HM.out
              have gW6 := (gW.below hR6.b gW.lt).all1.1
              have HIN := hide (iN.below hR6.b iN.lt)
              obtain ⟨s0, s1, s2, s3, s4, s5⟩ := gX6.allI
              have u4 := hR6.u.cell 4
              have ul := hR6.u.lt
              have xl := gX6.lt
              have hz7 : w4.heap.size ≤ w6.heap.size := hR6.b.size
              have wl := Nat.lt_of_lt_of_le gW.lt hR6.b.size
              change w6.cell? ⟨w4.heap.size, 4, none⟩ = some vch at u4
              clear hR1 gX1 hn1 hn2 HR1 gT6 ho6 hk6 hor6 gX6 gW iN y0 y1 y2 y3 y4 y5
              have hlk := look_get s.id now
              have hch : changedB now s = !decide (getI now s.id = some s) := rfl
              cases hg : getI now s.id with
              | none =>
                have HCh := hide (show changedB now s = true by rw [hch, hg]; simp)
                rw [hg] at hlk
                obtain ⟨y, hy⟩ : ∃ y : It, y = zIt := ⟨_, rfl⟩
                change _ = Value.tuple #[itV zIt, .bool false] at hlk
                rw [← hy] at hlk
                clear hch hy
                have HLk := hide hlk
                clear hlk hg
                have hR7 := hR6.to (balloc (Below.refl _ _) (.cells #[.int .i64 y.id, .int .i64 y.kind, .int .i64 y.x, .int .i64 y.y, .string y.text, .int .i64 y.mod] 36))
                have HR7 := hide hR7
                have gA : SlR ((w6.alloc (.cells (cI y).toArray 36)).alloc (.cells (cI s).toArray 36)) ((w6.alloc (.cells (cI y).toArray 36)).alloc (.cells (cI s).toArray 36)).heap.size 6 (some ⟨w6.heap.size + 1, 0, none⟩) 1 (cI s) := slr_new _ _ rfl (by simp)
                have HU7 := hide (And.intro (hR7.u.alloc (.cells (cI s).toArray 36)) (own_neX (hR7.ch.alloc (.cells (cI s).toArray 36)) (hR7.u.alloc (.cells (cI s).toArray 36))))
                clear hR6 hR7
                go_wp2_with (first | (at_lookup; refine wpList_lookup_im rfl _ _ 82 true rfl 3 36 _ Try.underlying82 Try.underlying3 (zvItem _) rfl HIN.out s.id rfl (.tuple #[itV y, .bool false]) HLk.out ?_) | (at_builtin; refine wpList_append_sl (size := 6) rfl _ _ 24 rfl w4.heap.size 36 i0 zV 56 Try.underlying24 hi hz0 hz1 hz2 rfl (by decide) _ Lch.length (Lch.flatMap cI) rfl (HR7.out.ch.alloc _) 1 1 (cI s) rfl gA (Below.refl _ _) (fun u hu => oneI [s] u (by simpa using hu)) (by unfold maxLen; omega) (by omega) (by simp; omega) ?_; intro v8 w8 ho8 hg8 hor8; obtain ⟨A8, c8, he8, _, _, _⟩ := SlR.of_own ho8; subst he8; obtain ⟨uc8, ud8, uf8, ug8, ul8⟩ := (HU7.out.1.grown hg8 HU7.out.2).u6))
                have HG8 := hide (And.intro ho8 hg8)
                clear ho8 hg8 hor8
                go_roundw
                case rel =>
                  obtain ⟨ho8, hg8⟩ := HG8.out
                  refine ⟨q + 1, by omega, by go_num, .slice A8 (Lch.length + 1) c8, v', ?_⟩
                  rw [HS1.out, HS2.out, if_pos HCh.out]
                  exact (HR7.out.to (balloc (Below.refl _ _) _)).addCh ho8 hg8
                case measure => simp [intOf]; omega
              | some y =>
                rw [hg] at hlk
                change _ = Value.tuple #[itV y, .bool true] at hlk
                by_cases he : s = y
                · have HCh := hide (show changedB now s = false by rw [hch, hg, he]; simp)
                  have hq0 : ∀ w, (binOp .neq 36 (itV s) (itV y)).run Try.prog w = .ok (.bool false) w := fun w => by rw [neqIt w s y]; simp [he]
                  simp only [itV] at hq0
                  clear hch he
                  have HLk := hide hlk
                  clear hlk hg
                  have hR7 := hR6.to (balloc (Below.refl _ _) (.cells #[.int .i64 y.id, .int .i64 y.kind, .int .i64 y.x, .int .i64 y.y, .string y.text, .int .i64 y.mod] 36))
                  have HR7 := hide hR7
                  clear hR6 hR7
                  go_wp2_with (first | (at_lookup; refine wpList_lookup_im rfl _ _ 82 true rfl 3 36 _ Try.underlying82 Try.underlying3 (zvItem _) rfl HIN.out s.id rfl (.tuple #[itV y, .bool true]) HLk.out ?_))
                  go_roundw
                  case rel =>
                    refine ⟨q + 1, by omega, by go_num, vch, v', ?_⟩
                    rw [HS1.out, HS2.out, if_neg (by rw [HCh.out]; decide)]
                    exact HR7.out
                  case measure => simp [intOf]; omega
                · have HCh := hide (show changedB now s = true by
                    rw [hch, hg]
                    have : ¬ y = s := fun e => he e.symm
                    simp [this])
                  have hq0 : ∀ w, (binOp .neq 36 (itV s) (itV y)).run Try.prog w = .ok (.bool true) w := fun w => by rw [neqIt w s y]; simp [he]
                  simp only [itV] at hq0
                  clear hch he
                  have HLk := hide hlk
                  clear hlk hg
                  have hR7 := hR6.to (balloc (Below.refl _ _) (.cells #[.int .i64 y.id, .int .i64 y.kind, .int .i64 y.x, .int .i64 y.y, .string y.text, .int .i64 y.mod] 36))
                  have HR7 := hide hR7
                  have gA : SlR ((w6.alloc (.cells (cI y).toArray 36)).alloc (.cells (cI s).toArray 36)) ((w6.alloc (.cells (cI y).toArray 36)).alloc (.cells (cI s).toArray 36)).heap.size 6 (some ⟨w6.heap.size + 1, 0, none⟩) 1 (cI s) := slr_new _ _ rfl (by simp)
                  have HU7 := hide (And.intro (hR7.u.alloc (.cells (cI s).toArray 36)) (own_neX (hR7.ch.alloc (.cells (cI s).toArray 36)) (hR7.u.alloc (.cells (cI s).toArray 36))))
                  clear hR6 hR7
                  go_wp2_with (first | (at_lookup; refine wpList_lookup_im rfl _ _ 82 true rfl 3 36 _ Try.underlying82 Try.underlying3 (zvItem _) rfl HIN.out s.id rfl (.tuple #[itV y, .bool true]) HLk.out ?_) | (at_builtin; refine wpList_append_sl (size := 6) rfl _ _ 24 rfl w4.heap.size 36 i0 zV 56 Try.underlying24 hi hz0 hz1 hz2 rfl (by decide) _ Lch.length (Lch.flatMap cI) rfl (HR7.out.ch.alloc _) 1 1 (cI s) rfl gA (Below.refl _ _) (fun u hu => oneI [s] u (by simpa using hu)) (by unfold maxLen; omega) (by omega) (by simp; omega) ?_; intro v8 w8 ho8 hg8 hor8; obtain ⟨A8, c8, he8, _, _, _⟩ := SlR.of_own ho8; subst he8; obtain ⟨uc8, ud8, uf8, ug8, ul8⟩ := (HU7.out.1.grown hg8 HU7.out.2).u6))
                  have HG8 := hide (And.intro ho8 hg8)
                  clear ho8 hg8 hor8
                  go_roundw
                  case rel =>
                    obtain ⟨ho8, hg8⟩ := HG8.out
                    refine ⟨q + 1, by omega, by go_num, .slice A8 (Lch.length + 1) c8, v', ?_⟩
                    rw [HS1.out, HS2.out, if_pos HCh.out]
                    exact (HR7.out.to (balloc (Below.refl _ _) _)).addCh ho8 hg8
                  case measure => simp [intOf]; omega
            · have htk : c.changes.take q = c.changes := List.take_of_length_le (by rw [HE.out.2.2.2.1]; omega)
              rw [htk] at hR
              have x5 := (hR.b.cell (p := ⟨w.heap.size + 1, 5, none⟩) hcl).trans x5
              have hl9 := hR.b.size
              have HR9 := hide hR
              clear hR htk x0 x1 x2 x3 x4
              obtain ⟨w9, rfl⟩ : ∃ w9 : World, w9 = wr := ⟨_, rfl⟩
              go_wp2_with fail
              go_loopw [104] (fun i wr => ∃ q : Nat, q ≤ rc.n2 ∧ i = .int .i64 q ∧ ∃ vch vgo vct, RebI w4 ⟨rc.code, rc.mod, rc.x, rc.y, [], []⟩ vch vgo vct (c.changes.filter (changedB now)) ((c.gone.take q).filter (goneP now)) ((c.changes.map (·.id) ++ c.gone.take q).filter (cntB old now)) wr) (fun i _ => rc.n2 - (intOf i).toNat)
              case atStart => exact ⟨0, by omega, rfl, _, _, _, by simpa using HR9.out⟩
              case round =>
                obtain ⟨q, hq, rfl, vch, vgo, vct, hR⟩ := hrel
                by_cases hlt : q < rc.n2
                · have hqi : (q : Int) < (rc.n2 : Int) := by omega
                  have hqk : q < c.gone.length := by rw [HE.out.2.2.2.2.1]; exact hlt
                  obtain ⟨b, off, hAe, hbb, y0⟩ := HS0.out.2.atN hR.b hqk
                  have HS1 := hide (filtN_snoc (goneP now) c.gone q hqk)
                  have HS2 := hide (show ((c.changes.map (·.id) ++ c.gone.take (q + 1)).filter (cntB old now)) = cntL old now ((c.changes.map (·.id) ++ c.gone.take q).filter (cntB old now)) c.gone[q] from by rw [List.take_succ_eq_append_getElem hqk, ← List.append_assoc, cntL_snoc])
                  have hLl : ((c.gone.take q).filter (goneP now)).length ≤ 100 := Nat.le_trans (List.length_filter_le _ _) (by rw [List.length_take]; omega)
                  have hLt : ((c.changes.map (·.id) ++ c.gone.take q).filter (cntB old now)).length ≤ 1000000 := Nat.le_trans (List.length_filter_le _ _) (by have := HE.out.2.2.2.1; rw [List.length_append, List.length_map, List.length_take]; omega)
                  rw [hAe] at *
                  clear hAe
                  generalize (c.gone.take q).filter (goneP now) = Lgo at *
                  generalize (c.changes.map (·.id) ++ c.gone.take q).filter (cntB old now) = Lct at *
                  generalize c.changes.filter (changedB now) = Lch at *
                  generalize c.gone[q] = s at *
                  clear hqk
                  obtain ⟨gO, gW, iO, iN⟩ := HM.out
                  have hk := c_contest bo bn (w4.heap.size + 1) mo mn w4.heap.size vct Lct old now s wr (gO.below hR.b gO.lt).all1.1 (gW.below hR.b gW.lt).all1.1 (iO.below hR.b iO.lt) (iN.below hR.b iN.lt) hR.t hR.ct hR.b.size hLt
                  have HR1 := hide hR
                  clear gO gW iO iN hR
                  go_wp2_with fail
                  refine hk.mono ?_
                  clear hk
                  rintro e w6 ⟨rfl, v', gT6, ho6, hk6, hor6⟩
                  have hR6 := HR1.out.cont gT6 ho6 hk6 hor6
                  obtain ⟨_, gW, _, iN⟩ := HM.out
                  have gW6 := (gW.below hR6.b gW.lt).all1.1
                  have HIN := hide (iN.below hR6.b iN.lt)
                  obtain ⟨_, u5, _, _, ul⟩ := hR6.u.u6
                  have wl := Nat.lt_of_lt_of_le gW.lt hR6.b.size
                  have hz7 : w4.heap.size ≤ w6.heap.size := hR6.b.size
                  clear HR1 gT6 ho6 hk6 hor6 gW iN y0
                  have hlk := look_get s now
                  have hch : goneP now s = (getI now s).isSome := rfl
                  cases hg : getI now s with
                  | none =>
                    have HCh := hide (show goneP now s = false by rw [hch, hg]; rfl)
                    rw [hg] at hlk
                    obtain ⟨y, hy⟩ : ∃ y : It, y = zIt := ⟨_, rfl⟩
                    change _ = Value.tuple #[itV zIt, .bool false] at hlk
                    rw [← hy] at hlk
                    clear hch hy
                    have HLk := hide hlk
                    clear hlk hg
                    have hR7 := hR6.to (balloc (Below.refl _ _) (.cells #[.int .i64 y.id, .int .i64 y.kind, .int .i64 y.x, .int .i64 y.y, .string y.text, .int .i64 y.mod] 36))
                    have HR7 := hide hR7
                    clear hR6 hR7
                    go_wp2_with (first | (at_lookup; refine wpList_lookup_im rfl _ _ 82 true rfl 3 36 _ Try.underlying82 Try.underlying3 (zvItem _) rfl HIN.out s rfl (.tuple #[itV y, .bool false]) HLk.out ?_))
                    go_roundw
                    case rel =>
                      refine ⟨q + 1, by omega, by go_num, vch, vgo, v', ?_⟩
                      rw [HS1.out, HS2.out, if_neg (by rw [HCh.out]; decide)]
                      exact HR7.out
                    case measure => simp [intOf]; omega
                  | some y =>
                    have HCh := hide (show goneP now s = true by rw [hch, hg]; rfl)
                    rw [hg] at hlk
                    change _ = Value.tuple #[itV y, .bool true] at hlk
                    clear hch
                    have HLk := hide hlk
                    clear hlk hg
                    have hR7 := hR6.to (balloc (Below.refl _ _) (.cells #[.int .i64 y.id, .int .i64 y.kind, .int .i64 y.x, .int .i64 y.y, .string y.text, .int .i64 y.mod] 36))
                    have HR7 := hide hR7
                    have gA : SlR ((w6.alloc (.cells (cI y).toArray 36)).alloc (.cells (cN s).toArray 3)) ((w6.alloc (.cells (cI y).toArray 36)).alloc (.cells (cN s).toArray 3)).heap.size 1 (some ⟨w6.heap.size + 1, 0, none⟩) 1 (cN s) := slr_new _ _ rfl (by simp)
                    have HU7 := hide (And.intro (hR7.u.alloc (.cells (cN s).toArray 3)) (own_neX (hR7.go.alloc (.cells (cN s).toArray 3)) (hR7.u.alloc (.cells (cN s).toArray 3))))
                    clear hR6 hR7
                    go_wp2_with (first | (at_lookup; refine wpList_lookup_im rfl _ _ 82 true rfl 3 36 _ Try.underlying82 Try.underlying3 (zvItem _) rfl HIN.out s rfl (.tuple #[itV y, .bool true]) HLk.out ?_) | (at_builtin; refine wpList_append_sl (size := 1) rfl _ _ 28 rfl w4.heap.size 3 i1 (.int .i64 0) 8 Try.underlying28 hi1 hy0 hy1 hy2 rfl (by decide) _ Lgo.length (Lgo.flatMap cN) rfl (HR7.out.go.alloc _) 1 1 (cN s) rfl gA (Below.refl _ _) (fun u hu => oneN [s] u (by simpa using hu)) (by unfold maxLen; omega) (by omega) (by simp; omega) ?_; intro v8 w8 ho8 hg8 hor8; obtain ⟨A8, c8, he8, _, _, _⟩ := SlR.of_own ho8; subst he8; obtain ⟨uc8, ud8, uf8, ug8, ul8⟩ := (HU7.out.1.grown hg8 HU7.out.2).u6))
                    have HG8 := hide (And.intro ho8 (And.intro hg8 hor8))
                    clear ho8 hg8 hor8
                    go_roundw
                    case rel =>
                      obtain ⟨ho8, hg8, hor8⟩ := HG8.out
                      refine ⟨q + 1, by omega, by go_num, vch, .slice A8 (Lgo.length + 1) c8, v', ?_⟩
                      rw [HS1.out, HS2.out, if_pos HCh.out]
                      exact (HR7.out.to (balloc (Below.refl _ _) _)).addGo ho8 hg8 hor8
                    case measure => simp [intOf]; omega
                · have htk : c.gone.take q = c.gone := List.take_of_length_le (by rw [HE.out.2.2.2.2.1]; omega)
                  rw [htk] at hR
                  have hLt : (contU old now c).length ≤ 1000000 := Nat.le_trans (List.length_filter_le _ _) (by have := HE.out.2.2.2.1; have := HE.out.2.2.2.2.1; rw [List.length_append, List.length_map]; omega)
                  change RebI w4 ⟨rc.code, rc.mod, rc.x, rc.y, [], []⟩ vch vgo vct (c.changes.filter (changedB now)) (c.gone.filter (goneP now)) (contU old now c) wr at hR
                  obtain ⟨Lch, hLch⟩ : ∃ L, L = c.changes.filter (changedB now) := ⟨_, rfl⟩
                  obtain ⟨Lgo, hLgo⟩ : ∃ L, L = c.gone.filter (goneP now) := ⟨_, rfl⟩
                  obtain ⟨Lct, hLct⟩ : ∃ L, L = contU old now c := ⟨_, rfl⟩
                  rw [← hLch, ← hLgo, ← hLct] at hR
                  rw [← hLct] at hLt
                  have HL := hide (And.intro hLch (And.intro hLgo hLct))
                  clear hLch hLgo hLct
                  have hk := c_sortAny vct Lct w4.heap.size wr hLt hR.ct
                  have hcb := hR.t.all1.1
                  have htl := hR.t.lt
                  have HR1 := hide hR
                  clear hR htk x5
                  go_wp2_with fail
                  refine hk.mono ?_
                  clear hk
                  rintro e w6 ⟨rfl, hos, hgs⟩
                  have hR6 := HR1.out.sorted hos hgs
                  obtain ⟨L', hL'⟩ : ∃ L, L = sortN Lct := ⟨_, rfl⟩
                  rw [← hL'] at hR6
                  have HL' := hide hL'
                  clear HR1 hos hgs hL'
                  obtain ⟨Ach, cch, rfl, q1, q2, _⟩ := SlR.of_own hR6.ch
                  obtain ⟨Ago, cgo, rfl, q3, q4, _⟩ := SlR.of_own hR6.go
                  obtain ⟨Act, cct, he9, q5, q6, _⟩ := SlR.of_own hR6.ct
                  have hll : L'.length = Lct.length := by rw [HL'.out, sortN_len]
                  have gZ6 := HE.out.2.2.2.2.2.1.below hR6.b HE.out.2.2.2.2.2.1.lt
                  obtain ⟨z0, z1, z2, z3, z4, z5⟩ := gZ6.allC
                  dsimp only [zCR] at z0 z1 z2 z3 z4 z5
                  have v0 := gZ6.free 0
                  have v1 := gZ6.free 1
                  have v2 := gZ6.free 2
                  have v3 := gZ6.free 3
                  have v4 := gZ6.free 4
                  have v5 := gZ6.free 5
                  have hgl := gZ6.lt
                  have hgl4 := HE.out.2.2.2.2.2.1.lt
                  have hne0 : w4.heap.size ≠ w.heap.size + 1 + 1 := by omega
                  have hne1 : w4.heap.size + 1 ≠ w.heap.size + 1 + 1 := by omega
                  have HR6 := hide hR6
                  have HQ := hide (And.intro he9 hll)
                  have HN := hide (And.intro hne0 hne1)
                  clear he9 hll gZ6 hR6 hne0 hne1 q1 q2 q3 q4 q5 q6 hcb htl
                  go_wp2_with fail
                  refine wp_region_held_drew (S := fun W => W.cell? ⟨w4.heap.size, 0, none⟩ = some (.int .i64 rc.code) ∧ W.cell? ⟨w4.heap.size, 1, none⟩ = some (.int .i64 rc.mod) ∧ W.cell? ⟨w4.heap.size, 2, none⟩ = some (.int .i64 rc.x) ∧ W.cell? ⟨w4.heap.size, 3, none⟩ = some (.int .i64 rc.y) ∧ W.cell? ⟨w4.heap.size, 4, none⟩ = some (.slice Ach Lch.length cch) ∧ W.cell? ⟨w4.heap.size, 5, none⟩ = some (.slice Ago Lgo.length cgo) ∧ W.cell? ⟨w4.heap.size + 1, 0, none⟩ = some vct) (by kernel_rfl) (rebS HR6.out.u.drew HR6.out.t.drew) (fun hHeld => ?_)
                  refine wpAnyH_take (i := 0) (v := ?_) rfl (by kernel_rfl) (by kernel_rfl) (by kernel_rfl) (fun _ _ _ h => h) (Or.inl ⟨by rfl, ?hy5⟩) (by assumption) ?rs5
                  case hy5 => (intro w hSw; (try dsimp only at hSw); go_simp; try (with_reducible rfl))
                  (try simp only [Act.put, List.setIfInBounds_toArray, List.set_cons_zero, List.set_cons_succ, List.getElem_toArray, List.getElem_cons_zero, List.getElem_cons_succ])
                  refine wpAnyH_take (i := 1) (v := ?_) rfl (by kernel_rfl) (by kernel_rfl) (by kernel_rfl) (fun _ _ _ h => h) (Or.inl ⟨by rfl, ?hy6⟩) (by assumption) ?rs6
                  case hy6 => (intro w hSw; (try dsimp only at hSw); go_simp; try (with_reducible rfl))
                  (try simp only [Act.put, List.setIfInBounds_toArray, List.set_cons_zero, List.set_cons_succ, List.getElem_toArray, List.getElem_cons_zero, List.getElem_cons_succ])
                  refine wpAnyH_ready (rs := [2]) (by kernel_rfl) (by simp) ?_
                  refine AllReadyH.cons rfl (fun K hK => ?_) ?_
                  · go_simp
                    refine hK.out _ _ (by exact (rebS (HR6.out.u.other6 HN.out.1 _ _ _ _ _ _).drew (HR6.out.t.other6 HN.out.2 _ _ _ _ _ _).drew)) (fun hHeld => ?_)
                    clear hK K
                    (try simp only [Act.put, List.setIfInBounds_toArray, List.set_cons_zero, List.set_cons_succ, List.getElem_toArray, List.getElem_cons_zero, List.getElem_cons_succ])
                    refine wpAnyH_take (i := 3) (v := ?_) rfl (by kernel_rfl) (by kernel_rfl) (by kernel_rfl) (fun _ _ _ h => h) (Or.inl ⟨by rfl, ?hy7⟩) (by assumption) ?rs7
                    case hy7 => (intro w hSw; (try dsimp only at hSw); go_simp; try (with_reducible rfl))
                    (try simp only [Act.put, List.setIfInBounds_toArray, List.set_cons_zero, List.set_cons_succ, List.getElem_toArray, List.getElem_cons_zero, List.getElem_cons_succ])
                    refine wpAnyH_take (i := 4) (v := ?_) rfl (by kernel_rfl) (by kernel_rfl) (by kernel_rfl) (fun _ _ _ h => h) (Or.inl ⟨by rfl, ?hy8⟩) (by assumption) ?rs8
                    case hy8 => (intro w hSw; (try dsimp only at hSw); go_simp; try (with_reducible rfl))
                    (try simp only [Act.put, List.setIfInBounds_toArray, List.set_cons_zero, List.set_cons_succ, List.getElem_toArray, List.getElem_cons_zero, List.getElem_cons_succ])
                    refine wpAnyH_done (by kernel_rfl) ?_ _
                    go_wp2_with fail
                    refine bodyPost_ret (v := .tuple #[crV ⟨rc.code, rc.mod, rc.x, rc.y, Ach, Lch.length, cch, Ago, Lgo.length, cgo⟩, vct, .int .i64 0]) (by simp [results, Try.results19, go_sem, z0, z1, z2, z3, z4, z5]) rfl ?_
                    obtain ⟨hceq, hold, hnow, _, _, _, hbw4⟩ := HE.out
                    obtain ⟨hLch, hLgo, hLct⟩ := HL.out
                    have hR6 := HR6.out
                    refine ⟨bdrew (reb_end (bthen hbw4 hR6.b) (by omega) _ _ _ _ _ _), .inr ⟨HOk.out, _, _, rfl, ?_, ?_⟩⟩
                    · rw [← hnow]
                      unfold rebC
                      rw [← hLch, ← hLgo]
                      exact ⟨hceq, own_row (own_set6 hR6.ch hgl4 _ _ _ _ _ _).drew, own_row (own_set6 hR6.go hgl4 _ _ _ _ _ _).drew⟩
                    · rw [← hnow, ← hold, ← hLct, ← HL'.out]
                      exact own_base (own_set6 hR6.ct hgl4 _ _ _ _ _ _).drew (by omega)
                  exact AllReadyH.nil
      · have hd0 : (r.id != rc.mod) = true := by simp [hne]
        obtain ⟨-, -, -, hid, hcc⟩ := HW.out
        have HF := hide (show rebOk ms next c = false by unfold rebOk; simp [← hid, ← hcc.2.1, hne])
        clear hV hne hid hcc
        obtain ⟨z0, z1, z2, z3, z4, z5⟩ := gZ2.allC
        dsimp only [zCR] at z0 z1 z2 z3 z4 z5
        have u0 := gZ2.free 0
        have u1 := gZ2.free 1
        have u2 := gZ2.free 2
        have u3 := gZ2.free 3
        have u4 := gZ2.free 4
        have u5 := gZ2.free 5
        have hgl := gZ2.lt
        go_wp2_with fail
        refine bodyPost_ret (v := .tuple #[.agg #[.int .i64 0, .int .i64 0, .int .i64 0, .int .i64 0, .slice none 0 0, .slice none 0 0], .slice none 0 0, .int .i64 140]) (by simp [results, Try.results19, go_sem, z0, z1, z2, z3, z4, z5]) rfl ?_
        exact ⟨reb_end hb02 (by omega) _ _ _ _ _ _, .inl ⟨HF.out, rfl⟩⟩
end Go.Proofs.Ytncdombfhcfobaa
