/- Replica: contradict, Behind$1; slices.Clone and slices.DeleteFunc at records. -/
import Derived.Test.YtcfbgelhggapjaaGreatDoorQ9
import Derived.Test.YtcfbgelhggapjaaGreatDoorQ5
import Derived.WideKeyEntry
namespace Go.Proofs.YtcfbgelhggapjaaGreatDoor
open Go.RowKit Go.Shelf
theorem cell_set7 (W : World) (a : Addr) (b : Nat) (u0 u1 u2 u3 u4 u5 u6 : Value) (h : a.block ≠ b) : (((((((W.setCell ⟨b, 0, none⟩ u0).setCell ⟨b, 1, none⟩ u1).setCell ⟨b, 2, none⟩ u2).setCell ⟨b, 3, none⟩ u3).setCell ⟨b, 4, none⟩ u4).setCell ⟨b, 5, none⟩ u5).setCell ⟨b, 6, none⟩ u6).cell? a = W.cell? a := by
  iterate 7 rw [cell_same (Below.heap_setCell _ _ _ a.block h)]
theorem below_set7 {B : Nat} {a W : World} {b : Nat} (h : Below B a W) (hb : B ≤ b) (u0 u1 u2 u3 u4 u5 u6 : Value) : Below B a (((((((W.setCell ⟨b, 0, none⟩ u0).setCell ⟨b, 1, none⟩ u1).setCell ⟨b, 2, none⟩ u2).setCell ⟨b, 3, none⟩ u3).setCell ⟨b, 4, none⟩ u4).setCell ⟨b, 5, none⟩ u5).setCell ⟨b, 6, none⟩ u6) :=
  ((((((h.setCell hb u0).setCell hb u1).setCell hb u2).setCell hb u3).setCell hb u4).setCell hb u5).setCell hb u6
def coF (l : List Rc) (r : Rc) : Bool := match fdR (keyR r) l with | some x => !decide (x = r) | none => false
def isF (l : List Rc) (r : Rc) : Bool := (fdR (keyR r) l).isSome
set_option linter.unusedSimpArgs false in
set_option linter.unusedVariables false in
set_option maxRecDepth 100000 in
set_option maxHeartbeats 8000000 in
theorem c_pBehindC1 (b gm : Nat) (l : List Rc) (r : Rc) (W : World) (hm : W.cell? ⟨gm, 0, none⟩ = some (.map (some b))) (hbk : BK W b l) :
    Calls Tryz.prog 67 #[rcV r, .pointer (some ⟨gm, 0, none⟩)] W fun e w' => e = .returned (.bool (isF l r)) ∧ Below W.heap.size W w' := by
  have hlt := World.block_lt_of_cell? W _ hm
  simp only [] at hlt
  have hb0 := balloc (Below.refl W.heap.size W) (.cells (cR r).toArray 49)
  have gS := Blk.new W 49 (cR r)
  obtain ⟨so, hso⟩ : ∃ so, so = isF l r := ⟨_, rfl⟩
  rw [← hso]
  obtain ⟨L, him, hL⟩ := hbk
  have hlk := hL (keyR r)
  have hblt := him.lt
  have hK0 := fun (q : World) => c_pkeyOf r q
  have HV : Hid (∃ (v : Value) (f : Bool) (s : Rc), v = rcV s ∧ Value.tuple #[(L.lookup (keyR r)).getD zV, .bool (L.lookup (keyR r)).isSome] = .tuple #[v, .bool f] ∧ so = f) := hide (by
    rw [hso]
    unfold isF
    cases hf : fdR (keyR r) l with
    | none => exact ⟨zV, false, zRc, rfl, by rw [hlk, hf]; rfl, by simp⟩
    | some s => exact ⟨rcV s, true, s, rfl, by rw [hlk, hf]; rfl, by simp⟩)
  clear hL hlk hso
  obtain ⟨v, f, s, rfl, hv, hm2⟩ := HV.out
  have HM := hide hm2
  have HVV := hide hv
  clear hv hm2 HV
  have hLk := fun W' (h : Below W.heap.size W W') => (him.below h hblt).run_lookup Tryz.underlying79 keyP (zvRec W') (keyR r) true
  simp only [if_true] at hLk
  rw [HVV.out] at hLk
  obtain ⟨p, n, t, o, wh, k, tx⟩ := r
  obtain ⟨p2, n2, t2, o2, wh2, k2, tx2⟩ := s
  unfold rcV kV keyR at hK0
  unfold rcV kK keyR at hLk
  unfold rcV
  unfold cR at hb0
  dsimp only at hK0 hb0 hLk
  obtain ⟨W0, hW0⟩ : ∃ W0, W.alloc (.cells #[.int .i64 p, .int .i64 n, .int .i64 t, .int .i64 o, .int .i64 wh, .int .i64 k, .string tx] 49) = W0 := ⟨_, rfl⟩
  have gS0 : Blk W0 W.heap.size 49 (cR ⟨p, n, t, o, wh, k, tx⟩) := by rw [← hW0]; exact gS
  have hs0 : W.heap.size < W0.heap.size := gS0.lt
  have HB0 : Hid (Below W.heap.size W W0) := hide (by rw [← hW0]; exact hb0)
  have HXf : Hid (∀ W', Below W.heap.size W W' → Blk W' W.heap.size 49 (cR ⟨p, n, t, o, wh, k, tx⟩) → W'.cell? ⟨gm, 0, none⟩ = some (.map (some b)) ∧ W'.cell? ⟨W.heap.size, 0, none⟩ = some (.int .i64 p) ∧ W'.cell? ⟨W.heap.size, 1, none⟩ = some (.int .i64 n) ∧ W'.cell? ⟨W.heap.size, 2, none⟩ = some (.int .i64 t) ∧ W'.cell? ⟨W.heap.size, 3, none⟩ = some (.int .i64 o) ∧ W'.cell? ⟨W.heap.size, 4, none⟩ = some (.int .i64 wh) ∧ W'.cell? ⟨W.heap.size, 5, none⟩ = some (.int .i64 k) ∧ W'.cell? ⟨W.heap.size, 6, none⟩ = some (.string tx) ∧ (Instr.lookup 79 (.map (some b)) (.agg #[.int .i64 p, .int .i64 n]) true).run Tryz.prog W' = .ok (.tuple #[.agg #[.int .i64 p2, .int .i64 n2, .int .i64 t2, .int .i64 o2, .int .i64 wh2, .int .i64 k2, .string tx2], .bool f]) W') := hide (fun W' h g => ⟨(h.cell (p := ⟨gm, 0, none⟩) hlt).trans hm, g.cell 0, g.cell 1, g.cell 2, g.cell 3, g.cell 4, g.cell 5, g.cell 6, hLk W' h⟩)
  have HX : Hid (∀ W', Below W0.heap.size W0 W' → W'.cell? ⟨gm, 0, none⟩ = some (.map (some b)) ∧ W'.cell? ⟨W.heap.size, 0, none⟩ = some (.int .i64 p) ∧ W'.cell? ⟨W.heap.size, 1, none⟩ = some (.int .i64 n) ∧ W'.cell? ⟨W.heap.size, 2, none⟩ = some (.int .i64 t) ∧ W'.cell? ⟨W.heap.size, 3, none⟩ = some (.int .i64 o) ∧ W'.cell? ⟨W.heap.size, 4, none⟩ = some (.int .i64 wh) ∧ W'.cell? ⟨W.heap.size, 5, none⟩ = some (.int .i64 k) ∧ W'.cell? ⟨W.heap.size, 6, none⟩ = some (.string tx) ∧ (Instr.lookup 79 (.map (some b)) (.agg #[.int .i64 p, .int .i64 n]) true).run Tryz.prog W' = .ok (.tuple #[.agg #[.int .i64 p2, .int .i64 n2, .int .i64 t2, .int .i64 o2, .int .i64 wh2, .int .i64 k2, .string tx2], .bool f]) W') := hide (fun W' h => HXf.out W' (bthen HB0.out h) (gS0.below h hs0))
  have HX7 : Hid (∀ w4, Below W0.heap.size W0 w4 → (fun W' => W'.cell? ⟨gm, 0, none⟩ = some (.map (some b)) ∧ W'.cell? ⟨W.heap.size, 0, none⟩ = some (.int .i64 p) ∧ W'.cell? ⟨W.heap.size, 1, none⟩ = some (.int .i64 n) ∧ W'.cell? ⟨W.heap.size, 2, none⟩ = some (.int .i64 t) ∧ W'.cell? ⟨W.heap.size, 3, none⟩ = some (.int .i64 o) ∧ W'.cell? ⟨W.heap.size, 4, none⟩ = some (.int .i64 wh) ∧ W'.cell? ⟨W.heap.size, 5, none⟩ = some (.int .i64 k) ∧ W'.cell? ⟨W.heap.size, 6, none⟩ = some (.string tx) ∧ (Instr.lookup 79 (.map (some b)) (.agg #[.int .i64 p, .int .i64 n]) true).run Tryz.prog W' = .ok (.tuple #[.agg #[.int .i64 p2, .int .i64 n2, .int .i64 t2, .int .i64 o2, .int .i64 wh2, .int .i64 k2, .string tx2], .bool f]) W') (((((((w4.setCell ⟨W0.heap.size, 0, none⟩ (.int .i64 p2)).setCell ⟨W0.heap.size, 1, none⟩ (.int .i64 n2)).setCell ⟨W0.heap.size, 2, none⟩ (.int .i64 t2)).setCell ⟨W0.heap.size, 3, none⟩ (.int .i64 o2)).setCell ⟨W0.heap.size, 4, none⟩ (.int .i64 wh2)).setCell ⟨W0.heap.size, 5, none⟩ (.int .i64 k2)).setCell ⟨W0.heap.size, 6, none⟩ (.string tx2))) := hide (fun w4 h => HX.out _ (below_set7 h (Nat.le_refl _) _ _ _ _ _ _ _))
  have hKy := hK0
  have hK2 := hK0
  have HG := hide gS0
  clear gS hb0 hLk hm HVV him hblt hK0 gS0
  go_enter Tryz.func67, Tryz.ntmps67
  go_wp2_with fail
  try rw [hW0]
  clear hW0
  refine wp_region_held_drew (S := fun W' => W'.cell? ⟨gm, 0, none⟩ = some (.map (some b)) ∧ W'.cell? ⟨W.heap.size, 0, none⟩ = some (.int .i64 p) ∧ W'.cell? ⟨W.heap.size, 1, none⟩ = some (.int .i64 n) ∧ W'.cell? ⟨W.heap.size, 2, none⟩ = some (.int .i64 t) ∧ W'.cell? ⟨W.heap.size, 3, none⟩ = some (.int .i64 o) ∧ W'.cell? ⟨W.heap.size, 4, none⟩ = some (.int .i64 wh) ∧ W'.cell? ⟨W.heap.size, 5, none⟩ = some (.int .i64 k) ∧ W'.cell? ⟨W.heap.size, 6, none⟩ = some (.string tx) ∧ (Instr.lookup 79 (.map (some b)) (.agg #[.int .i64 p, .int .i64 n]) true).run Tryz.prog W' = .ok (.tuple #[.agg #[.int .i64 p2, .int .i64 n2, .int .i64 t2, .int .i64 o2, .int .i64 wh2, .int .i64 k2, .string tx2], .bool f]) W') (by kernel_rfl) (HX.out _ (bdrew (Below.refl _ _))) (fun hHeld => ?_)
  refine wpAnyH_take (i := 0) (v := ?_) rfl (by kernel_rfl) (by kernel_rfl) (by kernel_rfl) (fun _ _ _ h => h) (Or.inl ⟨by rfl, ?hy1⟩) (by assumption) ?rs1
  case hy1 => (intro w hSw; (try dsimp only at hSw); go_simp; try (with_reducible rfl))
  (try simp only [Act.put, List.setIfInBounds_toArray, List.set_cons_zero, List.set_cons_succ, List.getElem_toArray, List.getElem_cons_zero, List.getElem_cons_succ])
  refine wpAnyH_take (i := 1) (v := ?_) rfl (by kernel_rfl) (by kernel_rfl) (by kernel_rfl) (fun _ _ _ h => h) (Or.inl ⟨by rfl, ?hy2⟩) (by assumption) ?rs2
  case hy2 => (intro w hSw; (try dsimp only at hSw); go_simp; try (with_reducible rfl))
  (try simp only [Act.put, List.setIfInBounds_toArray, List.set_cons_zero, List.set_cons_succ, List.getElem_toArray, List.getElem_cons_zero, List.getElem_cons_succ])
  refine wpAnyH_ready (rs := [2, 7]) (by kernel_rfl) (by simp) ?_
  refine AllReadyH.cons rfl (fun K hK => ?_) ?_
  · go_simp
    refine (hKy _).mono ?_
    rintro e w4 ⟨rfl, hb4⟩
    have h4 := hide (bthen (bdrew (Below.refl W0.heap.size W0)) hb4)
    clear hb4
    refine hK.out _ _ (by exact (HX.out _ h4.out)) (fun hHeld => ?_)
    clear hK K
    (try simp only [Act.put, List.setIfInBounds_toArray, List.set_cons_zero, List.set_cons_succ, List.getElem_toArray, List.getElem_cons_zero, List.getElem_cons_succ])
    refine wpAnyH_take (i := 3) (v := ?_) rfl (by kernel_rfl) (by kernel_rfl) (by kernel_rfl) (fun _ _ _ h => h) (Or.inl ⟨by rfl, ?hy3⟩) (by assumption) ?rs3
    case hy3 => (intro w hSw; (try dsimp only at hSw); go_simp; try (with_reducible rfl))
    (try simp only [Act.put, List.setIfInBounds_toArray, List.set_cons_zero, List.set_cons_succ, List.getElem_toArray, List.getElem_cons_zero, List.getElem_cons_succ])
    refine wpAnyH_take (i := 4) (v := ?_) rfl (by kernel_rfl) (by kernel_rfl) (by kernel_rfl) (fun _ _ _ h => h) (Or.inl ⟨by rfl, ?hy4⟩) (by assumption) ?rs4
    case hy4 => (intro w hSw; (try dsimp only at hSw); go_simp; try (with_reducible rfl))
    (try simp only [Act.put, List.setIfInBounds_toArray, List.set_cons_zero, List.set_cons_succ, List.getElem_toArray, List.getElem_cons_zero, List.getElem_cons_succ])
    refine wpAnyH_take (i := 5) (v := ?_) rfl (by kernel_rfl) (by kernel_rfl) (by kernel_rfl) (fun _ _ _ h => h) (Or.inl ⟨by rfl, ?hy5⟩) (by assumption) ?rs5
    case hy5 => (intro w hSw; (try dsimp only at hSw); go_simp; try (with_reducible rfl))
    (try simp only [Act.put, List.setIfInBounds_toArray, List.set_cons_zero, List.set_cons_succ, List.getElem_toArray, List.getElem_cons_zero, List.getElem_cons_succ])
    refine wpAnyH_take (i := 6) (v := ?_) rfl (by kernel_rfl) (by kernel_rfl) (by kernel_rfl) (fun _ _ _ h => h) (Or.inl ⟨by rfl, ?hy6⟩) (by assumption) ?rs6
    case hy6 => (intro w hSw; (try dsimp only at hSw); go_simp; try (with_reducible rfl))
    (try simp only [Act.put, List.setIfInBounds_toArray, List.set_cons_zero, List.set_cons_succ, List.getElem_toArray, List.getElem_cons_zero, List.getElem_cons_succ])
    refine wpAnyH_ready (rs := [7]) (by kernel_rfl) (by simp) ?_
    refine AllReadyH.cons rfl (fun K hK => ?_) ?_
    · go_simp
      refine hK.out _ _ (by exact (HX.out _ (balloc h4.out _))) (fun hHeld => ?_)
      clear hK K
      (try simp only [Act.put, List.setIfInBounds_toArray, List.set_cons_zero, List.set_cons_succ, List.getElem_toArray, List.getElem_cons_zero, List.getElem_cons_succ])
      refine wpAnyH_ready (rs := [8]) (by kernel_rfl) (by simp) ?_
      refine AllReadyH.cons rfl (fun K hK => ?_) ?_
      · go_simp
        refine hK.out _ _ (by exact (HX.out _ (balloc h4.out _))) (fun hHeld => ?_)
        clear hK K
        (try simp only [Act.put, List.setIfInBounds_toArray, List.set_cons_zero, List.set_cons_succ, List.getElem_toArray, List.getElem_cons_zero, List.getElem_cons_succ])
        refine wpAnyH_take (i := 9) (v := ?_) rfl (by kernel_rfl) (by kernel_rfl) (by kernel_rfl) (fun _ _ _ h => h) (Or.inl ⟨by rfl, ?hy7⟩) (by assumption) ?rs7
        case hy7 => (intro w hSw; (try dsimp only at hSw); go_simp; try (with_reducible rfl))
        (try simp only [Act.put, List.setIfInBounds_toArray, List.set_cons_zero, List.set_cons_succ, List.getElem_toArray, List.getElem_cons_zero, List.getElem_cons_succ])
        refine wpAnyH_done (by kernel_rfl) ?_ _
        go_wp2_with fail
        go_ret
        exact ⟨ret_bool HM.out.symm, bthen HB0.out (balloc h4.out _)⟩
      · exact AllReadyH.nil
    · exact AllReadyH.nil
  · refine AllReadyH.cons rfl (fun K hK => ?_) ?_
    · go_simp
      refine hK.out _ _ (by exact (HX.out _ (bdrew (balloc (Below.refl _ _) _)))) (fun hHeld => ?_)
      clear hK K
      (try simp only [Act.put, List.setIfInBounds_toArray, List.set_cons_zero, List.set_cons_succ, List.getElem_toArray, List.getElem_cons_zero, List.getElem_cons_succ])
      refine wpAnyH_ready (rs := [2]) (by kernel_rfl) (by simp) ?_
      refine AllReadyH.cons rfl (fun K hK => ?_) ?_
      · go_simp
        refine (hK2 _).mono ?_
        rintro e w4 ⟨rfl, hb4⟩
        have gz : Blk w4 W0.heap.size 49 (cR zRc) := (Blk.new W0.drew 49 (cR zRc)).below hb4 (by simp)
        have h4 := hide (bthen (bdrew (balloc (Below.refl W0.heap.size W0) (.cells #[.int .i64 0, .int .i64 0, .int .i64 0, .int .i64 0, .int .i64 0, .int .i64 0, .string ⟨#[]⟩] 49))) hb4)
        obtain ⟨c0, c1, c2, c3, c4, c5, c6⟩ := gz.allR
        obtain ⟨f0, f1, f2, f3, f4, f5, f6⟩ := gz.allFr
        simp only [zRc] at c0 c1 c2 c3 c4 c5 c6
        have hgz := gz.lt
        have gz2 := hide (gz.store7 ⟨p2, n2, t2, o2, wh2, k2, tx2⟩)
        clear hb4 gz
        refine hK.out _ _ (by exact (HX.out _ h4.out)) (fun hHeld => ?_)
        clear hK K
        (try simp only [Act.put, List.setIfInBounds_toArray, List.set_cons_zero, List.set_cons_succ, List.getElem_toArray, List.getElem_cons_zero, List.getElem_cons_succ])
        refine wpAnyH_take (i := 3) (v := ?_) rfl (by kernel_rfl) (by kernel_rfl) (by kernel_rfl) (fun _ _ _ h => h) (Or.inl ⟨by rfl, ?hy8⟩) (by assumption) ?rs8
        case hy8 => (intro w hSw; (try dsimp only at hSw); go_simp; try (with_reducible rfl))
        (try simp only [Act.put, List.setIfInBounds_toArray, List.set_cons_zero, List.set_cons_succ, List.getElem_toArray, List.getElem_cons_zero, List.getElem_cons_succ])
        refine wpAnyH_take (i := 4) (v := ?_) rfl (by kernel_rfl) (by kernel_rfl) (by kernel_rfl) (fun _ _ _ h => h) (Or.inl ⟨by rfl, ?hy9⟩) (by assumption) ?rs9
        case hy9 => (intro w hSw; (try dsimp only at hSw); go_simp; try (with_reducible rfl))
        (try simp only [Act.put, List.setIfInBounds_toArray, List.set_cons_zero, List.set_cons_succ, List.getElem_toArray, List.getElem_cons_zero, List.getElem_cons_succ])
        refine wpAnyH_take (i := 5) (v := ?_) rfl (by kernel_rfl) (by kernel_rfl) (by kernel_rfl) (fun _ _ _ h => h) (Or.inl ⟨by rfl, ?hy10⟩) (by assumption) ?rs10
        case hy10 => (intro w hSw; (try dsimp only at hSw); go_simp; try (with_reducible rfl))
        (try simp only [Act.put, List.setIfInBounds_toArray, List.set_cons_zero, List.set_cons_succ, List.getElem_toArray, List.getElem_cons_zero, List.getElem_cons_succ])
        refine wpAnyH_take (i := 6) (v := ?_) rfl (by kernel_rfl) (by kernel_rfl) (by kernel_rfl) (fun _ _ _ h => h) (Or.inl ⟨by rfl, ?hy11⟩) (by assumption) ?rs11
        case hy11 => (intro w hSw; (try dsimp only at hSw); go_simp; try (with_reducible rfl))
        (try simp only [Act.put, List.setIfInBounds_toArray, List.set_cons_zero, List.set_cons_succ, List.getElem_toArray, List.getElem_cons_zero, List.getElem_cons_succ])
        refine wpAnyH_ready (rs := [8]) (by kernel_rfl) (by simp) ?_
        refine AllReadyH.cons rfl (fun K hK => ?_) ?_
        · go_simp
          refine hK.out _ _ (by exact (HX7.out _ h4.out)) (fun hHeld => ?_)
          clear hK K
          (try simp only [Act.put, List.setIfInBounds_toArray, List.set_cons_zero, List.set_cons_succ, List.getElem_toArray, List.getElem_cons_zero, List.getElem_cons_succ])
          refine wpAnyH_take (i := 9) (v := ?_) rfl (by kernel_rfl) (by kernel_rfl) (by kernel_rfl) (fun _ _ _ h => h) (Or.inl ⟨by rfl, ?hy12⟩) (by assumption) ?rs12
          case hy12 => (intro w hSw; (try dsimp only at hSw); go_simp; try (with_reducible rfl))
          (try simp only [Act.put, List.setIfInBounds_toArray, List.set_cons_zero, List.set_cons_succ, List.getElem_toArray, List.getElem_cons_zero, List.getElem_cons_succ])
          refine wpAnyH_done (by kernel_rfl) ?_ _
          go_wp2_with fail
          go_ret
          exact ⟨ret_bool HM.out.symm, bthen HB0.out (below_set7 h4.out (Nat.le_refl _) _ _ _ _ _ _ _)⟩
        · exact AllReadyH.nil
      · exact AllReadyH.nil
    · exact AllReadyH.nil
set_option linter.unusedSimpArgs false in
set_option linter.unusedVariables false in
set_option maxRecDepth 100000 in
set_option maxHeartbeats 8000000 in
theorem c_pcontradictC1 (b gm : Nat) (l : List Rc) (r : Rc) (W : World) (hm : W.cell? ⟨gm, 0, none⟩ = some (.map (some b))) (hbk : BK W b l) :
    Calls Tryz.prog 87 #[rcV r, .pointer (some ⟨gm, 0, none⟩)] W fun e w' => e = .returned (.bool (coF l r)) ∧ Below W.heap.size W w' := by
  have hlt := World.block_lt_of_cell? W _ hm
  simp only [] at hlt
  have hb0 := balloc (Below.refl W.heap.size W) (.cells (cR r).toArray 49)
  have gS := Blk.new W 49 (cR r)
  obtain ⟨so, hso⟩ : ∃ so, so = coF l r := ⟨_, rfl⟩
  rw [← hso]
  obtain ⟨L, him, hL⟩ := hbk
  have hlk := hL (keyR r)
  have hblt := him.lt
  have hK0 := fun (q : World) => c_pkeyOf r q
  have HV : Hid (∃ (v : Value) (f : Bool) (s : Rc), v = rcV s ∧ Value.tuple #[(L.lookup (keyR r)).getD zV, .bool (L.lookup (keyR r)).isSome] = .tuple #[v, .bool f] ∧ so = (f && !decide (s = r))) := hide (by
    rw [hso]
    unfold coF
    cases hf : fdR (keyR r) l with
    | none => exact ⟨zV, false, zRc, rfl, by rw [hlk, hf]; rfl, by simp⟩
    | some s => exact ⟨rcV s, true, s, rfl, by rw [hlk, hf]; rfl, by simp⟩)
  clear hL hlk hso
  obtain ⟨v, f, s, rfl, hv, hm2⟩ := HV.out
  have HM := hide hm2
  have HVV := hide hv
  clear hv hm2 HV
  have hLk := fun W' (h : Below W.heap.size W W') => (him.below h hblt).run_lookup Tryz.underlying79 keyP (zvRec W') (keyR r) true
  simp only [if_true] at hLk
  rw [HVV.out] at hLk
  obtain ⟨p, n, t, o, wh, k, tx⟩ := r
  obtain ⟨p2, n2, t2, o2, wh2, k2, tx2⟩ := s
  unfold rcV kV keyR at hK0
  unfold rcV kK keyR at hLk
  unfold rcV
  unfold cR at hb0
  dsimp only at hK0 hb0 hLk
  obtain ⟨W0, hW0⟩ : ∃ W0, W.alloc (.cells #[.int .i64 p, .int .i64 n, .int .i64 t, .int .i64 o, .int .i64 wh, .int .i64 k, .string tx] 49) = W0 := ⟨_, rfl⟩
  have gS0 : Blk W0 W.heap.size 49 (cR ⟨p, n, t, o, wh, k, tx⟩) := by rw [← hW0]; exact gS
  have hs0 : W.heap.size < W0.heap.size := gS0.lt
  have HB0 : Hid (Below W.heap.size W W0) := hide (by rw [← hW0]; exact hb0)
  have HXf : Hid (∀ W', Below W.heap.size W W' → Blk W' W.heap.size 49 (cR ⟨p, n, t, o, wh, k, tx⟩) → W'.cell? ⟨gm, 0, none⟩ = some (.map (some b)) ∧ W'.cell? ⟨W.heap.size, 0, none⟩ = some (.int .i64 p) ∧ W'.cell? ⟨W.heap.size, 1, none⟩ = some (.int .i64 n) ∧ W'.cell? ⟨W.heap.size, 2, none⟩ = some (.int .i64 t) ∧ W'.cell? ⟨W.heap.size, 3, none⟩ = some (.int .i64 o) ∧ W'.cell? ⟨W.heap.size, 4, none⟩ = some (.int .i64 wh) ∧ W'.cell? ⟨W.heap.size, 5, none⟩ = some (.int .i64 k) ∧ W'.cell? ⟨W.heap.size, 6, none⟩ = some (.string tx) ∧ (Instr.lookup 79 (.map (some b)) (.agg #[.int .i64 p, .int .i64 n]) true).run Tryz.prog W' = .ok (.tuple #[.agg #[.int .i64 p2, .int .i64 n2, .int .i64 t2, .int .i64 o2, .int .i64 wh2, .int .i64 k2, .string tx2], .bool f]) W') := hide (fun W' h g => ⟨(h.cell (p := ⟨gm, 0, none⟩) hlt).trans hm, g.cell 0, g.cell 1, g.cell 2, g.cell 3, g.cell 4, g.cell 5, g.cell 6, hLk W' h⟩)
  have HX : Hid (∀ W', Below W0.heap.size W0 W' → W'.cell? ⟨gm, 0, none⟩ = some (.map (some b)) ∧ W'.cell? ⟨W.heap.size, 0, none⟩ = some (.int .i64 p) ∧ W'.cell? ⟨W.heap.size, 1, none⟩ = some (.int .i64 n) ∧ W'.cell? ⟨W.heap.size, 2, none⟩ = some (.int .i64 t) ∧ W'.cell? ⟨W.heap.size, 3, none⟩ = some (.int .i64 o) ∧ W'.cell? ⟨W.heap.size, 4, none⟩ = some (.int .i64 wh) ∧ W'.cell? ⟨W.heap.size, 5, none⟩ = some (.int .i64 k) ∧ W'.cell? ⟨W.heap.size, 6, none⟩ = some (.string tx) ∧ (Instr.lookup 79 (.map (some b)) (.agg #[.int .i64 p, .int .i64 n]) true).run Tryz.prog W' = .ok (.tuple #[.agg #[.int .i64 p2, .int .i64 n2, .int .i64 t2, .int .i64 o2, .int .i64 wh2, .int .i64 k2, .string tx2], .bool f]) W') := hide (fun W' h => HXf.out W' (bthen HB0.out h) (gS0.below h hs0))
  have HX7 : Hid (∀ w4, Below W0.heap.size W0 w4 → (fun W' => W'.cell? ⟨gm, 0, none⟩ = some (.map (some b)) ∧ W'.cell? ⟨W.heap.size, 0, none⟩ = some (.int .i64 p) ∧ W'.cell? ⟨W.heap.size, 1, none⟩ = some (.int .i64 n) ∧ W'.cell? ⟨W.heap.size, 2, none⟩ = some (.int .i64 t) ∧ W'.cell? ⟨W.heap.size, 3, none⟩ = some (.int .i64 o) ∧ W'.cell? ⟨W.heap.size, 4, none⟩ = some (.int .i64 wh) ∧ W'.cell? ⟨W.heap.size, 5, none⟩ = some (.int .i64 k) ∧ W'.cell? ⟨W.heap.size, 6, none⟩ = some (.string tx) ∧ (Instr.lookup 79 (.map (some b)) (.agg #[.int .i64 p, .int .i64 n]) true).run Tryz.prog W' = .ok (.tuple #[.agg #[.int .i64 p2, .int .i64 n2, .int .i64 t2, .int .i64 o2, .int .i64 wh2, .int .i64 k2, .string tx2], .bool f]) W') (((((((w4.setCell ⟨W0.heap.size, 0, none⟩ (.int .i64 p2)).setCell ⟨W0.heap.size, 1, none⟩ (.int .i64 n2)).setCell ⟨W0.heap.size, 2, none⟩ (.int .i64 t2)).setCell ⟨W0.heap.size, 3, none⟩ (.int .i64 o2)).setCell ⟨W0.heap.size, 4, none⟩ (.int .i64 wh2)).setCell ⟨W0.heap.size, 5, none⟩ (.int .i64 k2)).setCell ⟨W0.heap.size, 6, none⟩ (.string tx2))) := hide (fun w4 h => HX.out _ (below_set7 h (Nat.le_refl _) _ _ _ _ _ _ _))
  have hKy := hK0
  have hK2 := hK0
  have HG := hide gS0
  clear gS hb0 hLk hm HVV him hblt hK0 gS0
  go_enter Tryz.func87, Tryz.ntmps87
  go_wp2_with fail
  try rw [hW0]
  clear hW0
  refine wp_region_held_drew (S := fun W' => W'.cell? ⟨gm, 0, none⟩ = some (.map (some b)) ∧ W'.cell? ⟨W.heap.size, 0, none⟩ = some (.int .i64 p) ∧ W'.cell? ⟨W.heap.size, 1, none⟩ = some (.int .i64 n) ∧ W'.cell? ⟨W.heap.size, 2, none⟩ = some (.int .i64 t) ∧ W'.cell? ⟨W.heap.size, 3, none⟩ = some (.int .i64 o) ∧ W'.cell? ⟨W.heap.size, 4, none⟩ = some (.int .i64 wh) ∧ W'.cell? ⟨W.heap.size, 5, none⟩ = some (.int .i64 k) ∧ W'.cell? ⟨W.heap.size, 6, none⟩ = some (.string tx) ∧ (Instr.lookup 79 (.map (some b)) (.agg #[.int .i64 p, .int .i64 n]) true).run Tryz.prog W' = .ok (.tuple #[.agg #[.int .i64 p2, .int .i64 n2, .int .i64 t2, .int .i64 o2, .int .i64 wh2, .int .i64 k2, .string tx2], .bool f]) W') (by kernel_rfl) (HX.out _ (bdrew (Below.refl _ _))) (fun hHeld => ?_)
  refine wpAnyH_take (i := 0) (v := ?_) rfl (by kernel_rfl) (by kernel_rfl) (by kernel_rfl) (fun _ _ _ h => h) (Or.inl ⟨by rfl, ?hy13⟩) (by assumption) ?rs13
  case hy13 => (intro w hSw; (try dsimp only at hSw); go_simp; try (with_reducible rfl))
  (try simp only [Act.put, List.setIfInBounds_toArray, List.set_cons_zero, List.set_cons_succ, List.getElem_toArray, List.getElem_cons_zero, List.getElem_cons_succ])
  refine wpAnyH_take (i := 1) (v := ?_) rfl (by kernel_rfl) (by kernel_rfl) (by kernel_rfl) (fun _ _ _ h => h) (Or.inl ⟨by rfl, ?hy14⟩) (by assumption) ?rs14
  case hy14 => (intro w hSw; (try dsimp only at hSw); go_simp; try (with_reducible rfl))
  (try simp only [Act.put, List.setIfInBounds_toArray, List.set_cons_zero, List.set_cons_succ, List.getElem_toArray, List.getElem_cons_zero, List.getElem_cons_succ])
  refine wpAnyH_ready (rs := [2, 7]) (by kernel_rfl) (by simp) ?_
  refine AllReadyH.cons rfl (fun K hK => ?_) ?_
  · go_simp
    refine (hKy _).mono ?_
    rintro e w4 ⟨rfl, hb4⟩
    have h4 := hide (bthen (bdrew (Below.refl W0.heap.size W0)) hb4)
    clear hb4
    refine hK.out _ _ (by exact (HX.out _ h4.out)) (fun hHeld => ?_)
    clear hK K
    (try simp only [Act.put, List.setIfInBounds_toArray, List.set_cons_zero, List.set_cons_succ, List.getElem_toArray, List.getElem_cons_zero, List.getElem_cons_succ])
    refine wpAnyH_take (i := 3) (v := ?_) rfl (by kernel_rfl) (by kernel_rfl) (by kernel_rfl) (fun _ _ _ h => h) (Or.inl ⟨by rfl, ?hy15⟩) (by assumption) ?rs15
    case hy15 => (intro w hSw; (try dsimp only at hSw); go_simp; try (with_reducible rfl))
    (try simp only [Act.put, List.setIfInBounds_toArray, List.set_cons_zero, List.set_cons_succ, List.getElem_toArray, List.getElem_cons_zero, List.getElem_cons_succ])
    refine wpAnyH_take (i := 4) (v := ?_) rfl (by kernel_rfl) (by kernel_rfl) (by kernel_rfl) (fun _ _ _ h => h) (Or.inl ⟨by rfl, ?hy16⟩) (by assumption) ?rs16
    case hy16 => (intro w hSw; (try dsimp only at hSw); go_simp; try (with_reducible rfl))
    (try simp only [Act.put, List.setIfInBounds_toArray, List.set_cons_zero, List.set_cons_succ, List.getElem_toArray, List.getElem_cons_zero, List.getElem_cons_succ])
    refine wpAnyH_take (i := 5) (v := ?_) rfl (by kernel_rfl) (by kernel_rfl) (by kernel_rfl) (fun _ _ _ h => h) (Or.inl ⟨by rfl, ?hy17⟩) (by assumption) ?rs17
    case hy17 => (intro w hSw; (try dsimp only at hSw); go_simp; try (with_reducible rfl))
    (try simp only [Act.put, List.setIfInBounds_toArray, List.set_cons_zero, List.set_cons_succ, List.getElem_toArray, List.getElem_cons_zero, List.getElem_cons_succ])
    refine wpAnyH_take (i := 6) (v := ?_) rfl (by kernel_rfl) (by kernel_rfl) (by kernel_rfl) (fun _ _ _ h => h) (Or.inl ⟨by rfl, ?hy18⟩) (by assumption) ?rs18
    case hy18 => (intro w hSw; (try dsimp only at hSw); go_simp; try (with_reducible rfl))
    (try simp only [Act.put, List.setIfInBounds_toArray, List.set_cons_zero, List.set_cons_succ, List.getElem_toArray, List.getElem_cons_zero, List.getElem_cons_succ])
    refine wpAnyH_ready (rs := [7]) (by kernel_rfl) (by simp) ?_
    refine AllReadyH.cons rfl (fun K hK => ?_) ?_
    · go_simp
      refine hK.out _ _ (by exact (HX.out _ (balloc h4.out _))) (fun hHeld => ?_)
      clear hK K
      (try simp only [Act.put, List.setIfInBounds_toArray, List.set_cons_zero, List.set_cons_succ, List.getElem_toArray, List.getElem_cons_zero, List.getElem_cons_succ])
      refine wpAnyH_ready (rs := [8]) (by kernel_rfl) (by simp) ?_
      refine AllReadyH.cons rfl (fun K hK => ?_) ?_
      · go_simp
        refine hK.out _ _ (by exact (HX.out _ (balloc h4.out _))) (fun hHeld => ?_)
        clear hK K
        (try simp only [Act.put, List.setIfInBounds_toArray, List.set_cons_zero, List.set_cons_succ, List.getElem_toArray, List.getElem_cons_zero, List.getElem_cons_succ])
        refine wpAnyH_take (i := 9) (v := ?_) rfl (by kernel_rfl) (by kernel_rfl) (by kernel_rfl) (fun _ _ _ h => h) (Or.inl ⟨by rfl, ?hy19⟩) (by assumption) ?rs19
        case hy19 => (intro w hSw; (try dsimp only at hSw); go_simp; try (with_reducible rfl))
        (try simp only [Act.put, List.setIfInBounds_toArray, List.set_cons_zero, List.set_cons_succ, List.getElem_toArray, List.getElem_cons_zero, List.getElem_cons_succ])
        refine wpAnyH_done (by kernel_rfl) ?_ _
        have HN : Hid (∀ w, (binOp .neq 49 (rcV ⟨p2, n2, t2, o2, wh2, k2, tx2⟩) (rcV ⟨p, n, t, o, wh, k, tx⟩)).run Tryz.prog w = .ok (.bool (!decide ((⟨p2, n2, t2, o2, wh2, k2, tx2⟩ : Rc) = ⟨p, n, t, o, wh, k, tx⟩))) w) := hide (fun w => neqRc w _ _)
        have hq := HN.out
        simp only [rcV] at hq
        generalize (!decide ((⟨p2, n2, t2, o2, wh2, k2, tx2⟩ : Rc) = ⟨p, n, t, o, wh, k, tx⟩)) = D at *
        clear HN
        have gN := Blk.new w4 49 (cR ⟨p2, n2, t2, o2, wh2, k2, tx2⟩)
        obtain ⟨s0, s1, s2, s3, s4, s5, s6⟩ := ((HG.out.below h4.out hs0).alloc (.cells #[.int .i64 p2, .int .i64 n2, .int .i64 t2, .int .i64 o2, .int .i64 wh2, .int .i64 k2, .string tx2] 49)).allR
        dsimp only at s0 s1 s2 s3 s4 s5 s6
        have hgw : W.heap.size < w4.heap.size := by have := h4.out.size; omega
        clear gN
        cases f with
        | false =>
          go_wp2_with fail
          go_ret
          exact ⟨ret_bool (by rw [HM.out]; rfl), bthen HB0.out (balloc h4.out _)⟩
        | true =>
          go_wp2_with fail
          go_ret
          exact ⟨ret_bool (by rw [HM.out]; simp), bthen HB0.out (balloc h4.out _)⟩
      · exact AllReadyH.nil
    · exact AllReadyH.nil
  · refine AllReadyH.cons rfl (fun K hK => ?_) ?_
    · go_simp
      refine hK.out _ _ (by exact (HX.out _ (bdrew (balloc (Below.refl _ _) _)))) (fun hHeld => ?_)
      clear hK K
      (try simp only [Act.put, List.setIfInBounds_toArray, List.set_cons_zero, List.set_cons_succ, List.getElem_toArray, List.getElem_cons_zero, List.getElem_cons_succ])
      refine wpAnyH_ready (rs := [2]) (by kernel_rfl) (by simp) ?_
      refine AllReadyH.cons rfl (fun K hK => ?_) ?_
      · go_simp
        refine (hK2 _).mono ?_
        rintro e w4 ⟨rfl, hb4⟩
        have gz : Blk w4 W0.heap.size 49 (cR zRc) := (Blk.new W0.drew 49 (cR zRc)).below hb4 (by simp)
        have h4 := hide (bthen (bdrew (balloc (Below.refl W0.heap.size W0) (.cells #[.int .i64 0, .int .i64 0, .int .i64 0, .int .i64 0, .int .i64 0, .int .i64 0, .string ⟨#[]⟩] 49))) hb4)
        obtain ⟨c0, c1, c2, c3, c4, c5, c6⟩ := gz.allR
        obtain ⟨f0, f1, f2, f3, f4, f5, f6⟩ := gz.allFr
        simp only [zRc] at c0 c1 c2 c3 c4 c5 c6
        have hgz := gz.lt
        have gz2 := hide (gz.store7 ⟨p2, n2, t2, o2, wh2, k2, tx2⟩)
        clear hb4 gz
        refine hK.out _ _ (by exact (HX.out _ h4.out)) (fun hHeld => ?_)
        clear hK K
        (try simp only [Act.put, List.setIfInBounds_toArray, List.set_cons_zero, List.set_cons_succ, List.getElem_toArray, List.getElem_cons_zero, List.getElem_cons_succ])
        refine wpAnyH_take (i := 3) (v := ?_) rfl (by kernel_rfl) (by kernel_rfl) (by kernel_rfl) (fun _ _ _ h => h) (Or.inl ⟨by rfl, ?hy20⟩) (by assumption) ?rs20
        case hy20 => (intro w hSw; (try dsimp only at hSw); go_simp; try (with_reducible rfl))
        (try simp only [Act.put, List.setIfInBounds_toArray, List.set_cons_zero, List.set_cons_succ, List.getElem_toArray, List.getElem_cons_zero, List.getElem_cons_succ])
        refine wpAnyH_take (i := 4) (v := ?_) rfl (by kernel_rfl) (by kernel_rfl) (by kernel_rfl) (fun _ _ _ h => h) (Or.inl ⟨by rfl, ?hy21⟩) (by assumption) ?rs21
        case hy21 => (intro w hSw; (try dsimp only at hSw); go_simp; try (with_reducible rfl))
        (try simp only [Act.put, List.setIfInBounds_toArray, List.set_cons_zero, List.set_cons_succ, List.getElem_toArray, List.getElem_cons_zero, List.getElem_cons_succ])
        refine wpAnyH_take (i := 5) (v := ?_) rfl (by kernel_rfl) (by kernel_rfl) (by kernel_rfl) (fun _ _ _ h => h) (Or.inl ⟨by rfl, ?hy22⟩) (by assumption) ?rs22
        case hy22 => (intro w hSw; (try dsimp only at hSw); go_simp; try (with_reducible rfl))
        (try simp only [Act.put, List.setIfInBounds_toArray, List.set_cons_zero, List.set_cons_succ, List.getElem_toArray, List.getElem_cons_zero, List.getElem_cons_succ])
        refine wpAnyH_take (i := 6) (v := ?_) rfl (by kernel_rfl) (by kernel_rfl) (by kernel_rfl) (fun _ _ _ h => h) (Or.inl ⟨by rfl, ?hy23⟩) (by assumption) ?rs23
        case hy23 => (intro w hSw; (try dsimp only at hSw); go_simp; try (with_reducible rfl))
        (try simp only [Act.put, List.setIfInBounds_toArray, List.set_cons_zero, List.set_cons_succ, List.getElem_toArray, List.getElem_cons_zero, List.getElem_cons_succ])
        refine wpAnyH_ready (rs := [8]) (by kernel_rfl) (by simp) ?_
        refine AllReadyH.cons rfl (fun K hK => ?_) ?_
        · go_simp
          refine hK.out _ _ (by exact (HX7.out _ h4.out)) (fun hHeld => ?_)
          clear hK K
          (try simp only [Act.put, List.setIfInBounds_toArray, List.set_cons_zero, List.set_cons_succ, List.getElem_toArray, List.getElem_cons_zero, List.getElem_cons_succ])
          refine wpAnyH_take (i := 9) (v := ?_) rfl (by kernel_rfl) (by kernel_rfl) (by kernel_rfl) (fun _ _ _ h => h) (Or.inl ⟨by rfl, ?hy24⟩) (by assumption) ?rs24
          case hy24 => (intro w hSw; (try dsimp only at hSw); go_simp; try (with_reducible rfl))
          (try simp only [Act.put, List.setIfInBounds_toArray, List.set_cons_zero, List.set_cons_succ, List.getElem_toArray, List.getElem_cons_zero, List.getElem_cons_succ])
          refine wpAnyH_done (by kernel_rfl) ?_ _
          have HN : Hid (∀ w, (binOp .neq 49 (rcV ⟨p2, n2, t2, o2, wh2, k2, tx2⟩) (rcV ⟨p, n, t, o, wh, k, tx⟩)).run Tryz.prog w = .ok (.bool (!decide ((⟨p2, n2, t2, o2, wh2, k2, tx2⟩ : Rc) = ⟨p, n, t, o, wh, k, tx⟩))) w) := hide (fun w => neqRc w _ _)
          have hq := HN.out
          simp only [rcV] at hq
          generalize (!decide ((⟨p2, n2, t2, o2, wh2, k2, tx2⟩ : Rc) = ⟨p, n, t, o, wh, k, tx⟩)) = D at *
          clear HN
          obtain ⟨q0, q1, q2, q3, q4, q5, q6⟩ := gz2.out.allR
          have hS7 := HX7.out _ h4.out
          dsimp only at hS7 q0 q1 q2 q3 q4 q5 q6
          obtain ⟨-, s0, s1, s2, s3, s4, s5, s6, -⟩ := hS7
          have h4s := h4.out.size
          have HB9 := hide (bthen HB0.out (below_set7 h4.out (Nat.le_refl _) (.int .i64 p2) (.int .i64 n2) (.int .i64 t2) (.int .i64 o2) (.int .i64 wh2) (.int .i64 k2) (.string tx2)))
          clear gz2 HX7 c0 c1 c2 c3 c4 c5 c6 f0 f1 f2 f3 f4 f5 f6
          generalize (((((((w4.setCell ⟨W0.heap.size, 0, none⟩ (.int .i64 p2)).setCell ⟨W0.heap.size, 1, none⟩ (.int .i64 n2)).setCell ⟨W0.heap.size, 2, none⟩ (.int .i64 t2)).setCell ⟨W0.heap.size, 3, none⟩ (.int .i64 o2)).setCell ⟨W0.heap.size, 4, none⟩ (.int .i64 wh2)).setCell ⟨W0.heap.size, 5, none⟩ (.int .i64 k2)).setCell ⟨W0.heap.size, 6, none⟩ (.string tx2)) = w9 at *
          cases f with
          | false =>
            go_wp2_with fail
            go_ret
            exact ⟨ret_bool (by rw [HM.out]; rfl), HB9.out⟩
          | true =>
            go_wp2_with fail
            go_ret
            exact ⟨ret_bool (by rw [HM.out]; simp), HB9.out⟩
        · exact AllReadyH.nil
      · exact AllReadyH.nil
    · exact AllReadyH.nil
end Go.Proofs.YtcfbgelhggapjaaGreatDoor
/- Replica: contradict, the package's Merge. -/
namespace Go.Proofs.YtcfbgelhggapjaaGreatDoor
open Go.RowKit Go.Shelf
theorem c_pcontradict (A B : Option Addr) (n c m d : Nat) (la lb : List Rc) (w : World) (hn : n ≤ 9223372036854775807) (hm : m ≤ 9223372036854775807) (hnd : (la.map keyR).Nodup) (hr : SlR w w.heap.size 7 A n (la.flatMap cR)) (hs : SlR w w.heap.size 7 B m (lb.flatMap cR)) :
    Calls Tryz.prog 61 #[.slice A n c, .slice B m d] w fun e w' => e = .returned (.bool (conB la lb)) ∧ Below w.heap.size w w' := by
  have hc := c_pbooked A n c la w hnd hn hr
  have HS := hide hs
  clear hr hs
  rw [show conB la lb = lb.any (coF la) from rfl]
  obtain ⟨an, han⟩ : ∃ an, an = lb.any (coF la) := ⟨_, rfl⟩
  rw [← han]
  have HAn := hide han
  clear han
  go_enter Tryz.func61, Tryz.ntmps61
  go_wp2_with (go_at_call 52; refine hc.mono ?_; clear hc; rintro e w2 ⟨b, rfl, hbb, hbk, hb2⟩)
  have hA := balloc (Below.refl w2.heap.size w2) (.cells #[.map (some b)] 79)
  have gF := Blk.new w2 79 [.map (some b)]
  have hcc := c_sContains (coF la) 87 #[.pointer (some ⟨w2.heap.size, 0, none⟩)] (enters_of Tryz.func87 (by kernel_rfl) rfl) B m d lb (w2.alloc (.cells #[.map (some b)] 79)) hm
    (fun W s hW => (c_pcontradictC1 b w2.heap.size la s W ((gF.below hW gF.lt).cell 0) ((hbk.to hA).to hW)).mono fun e w' h => ⟨h.1, bthen hW h.2⟩) ((HS.out.to' hb2).to' hA)
  have HA := hide (bthen hb2 hA)
  rw [← HAn.out] at hcc
  clear hA gF hbk hb2
  go_wp2_with (go_at_call 54; refine hcc.mono ?_; clear hcc; rintro e w3 ⟨rfl, hb3⟩)
  go_ret
  exact ⟨rfl, bthen HA.out hb3⟩
theorem mg_vr {p q : Int} {a b : List Rc} (ha : vrB p a = true) (hb : vrB q b = true) (hc : conB a b = false) : mrgM p a q b = if vrB p (mgL a b) then some (mgL a b) else none := by
  obtain ⟨a1, a2, a3⟩ := vr_iff.1 ha
  obtain ⟨b1, b2, b3⟩ := vr_iff.1 hb
  obtain ⟨_, _, s3, s4⟩ := mg_spec a3 b3 hc
  unfold mrgM
  by_cases h : a.length + (newL a b).length ≤ 150
  · rw [if_pos (mgOk_iff.2 ⟨ha, hb, hc, h⟩), if_pos (vr_iff.2 ⟨a1, by omega, s4⟩)]
  · rw [if_neg (fun g => h (mgOk_iff.1 g).2.2.2), if_neg (fun g => h (by have := (vr_iff.1 g).2.1; omega))]
theorem mg_none {p q : Int} {a b : List Rc} (h : vrB p a = false ∨ vrB q b = false ∨ conB a b = true) : mrgM p a q b = none := by
  unfold mrgM
  rw [if_neg]
  intro g
  obtain ⟨g1, g2, g3, _⟩ := mgOk_iff.1 g
  rcases h with h | h | h
  · rw [h] at g1; cases g1
  · rw [h] at g2; cases g2
  · rw [h] at g3; cases g3
set_option linter.unusedSimpArgs false in
set_option maxRecDepth 100000 in
set_option maxHeartbeats 8000000 in
theorem c_pMerge (p : Int) (A : Option Addr) (N c : Nat) (l : List Rc) (q : Int) (B : Option Addr) (M d : Nat) (k : List Rc) (w : World) (hR : RL w) (hN : N ≤ 9223372036854775807) (hM : M ≤ 9223372036854775807) (hr : SlR w w.heap.size 7 A N (l.flatMap cR)) (hs : SlR w w.heap.size 7 B M (k.flatMap cR)) :
    Calls Tryz.prog 26 #[rpV p A N c, rpV q B M d] w (RepPost p (mrgM p l q k) w) := by
  have hb0 := balloc (balloc (balloc (Below.refl w.heap.size w) (.cells #[.int .i64 p, .slice A N c] 25)) (.cells #[.int .i64 q, .slice B M d] 25)) (.cells #[.int .i64 0, .slice none 0 0] 25)
  obtain ⟨w0, hw0⟩ : ∃ w0, ((w.alloc (.cells #[.int .i64 p, .slice A N c] 25)).alloc (.cells #[.int .i64 q, .slice B M d] 25)).alloc (.cells #[.int .i64 0, .slice none 0 0] 25) = w0 := ⟨_, rfl⟩
  have gR : Blk w0 w.heap.size 25 [.int .i64 p, .slice A N c] := by rw [← hw0]; exact ((Blk.new w 25 [.int .i64 p, .slice A N c]).alloc _).alloc _
  have gQ : Blk w0 (w.heap.size + 1) 25 [.int .i64 q, .slice B M d] := by
    rw [← hw0]
    have := Blk.new (w.alloc (.cells #[.int .i64 p, .slice A N c] 25)) 25 [.int .i64 q, .slice B M d]
    rw [show (w.alloc (.cells #[.int .i64 p, .slice A N c] 25)).heap.size = w.heap.size + 1 from by simp] at this
    exact this.alloc _
  have gZ : Blk w0 (w.heap.size + 1 + 1) 25 [.int .i64 0, .slice none 0 0] := by
    rw [← hw0]
    have := Blk.new ((w.alloc (.cells #[.int .i64 p, .slice A N c] 25)).alloc (.cells #[.int .i64 q, .slice B M d] 25)) 25 [.int .i64 0, .slice none 0 0]
    rw [show ((w.alloc (.cells #[.int .i64 p, .slice A N c] 25)).alloc (.cells #[.int .i64 q, .slice B M d] 25)).heap.size = w.heap.size + 1 + 1 from by simp] at this
    exact this
  rw [hw0] at hb0
  have HW0 := hide hw0
  have HL := hide (And.intro hr.lenR hs.lenR)
  have hk0 := c_pValid p A N c l w0 (hR.to' hb0) (hr.to' hb0) hN
  -- all facts in whatever later world
  have HH : Hid (∀ W, Below w0.heap.size w0 W → Blk W w.heap.size 25 [.int .i64 p, .slice A N c] ∧ Blk W (w.heap.size + 1) 25 [.int .i64 q, .slice B M d] ∧ Blk W (w.heap.size + 1 + 1) 25 [.int .i64 0, .slice none 0 0] ∧ SlR W W.heap.size 7 A N (l.flatMap cR) ∧ SlR W W.heap.size 7 B M (k.flatMap cR) ∧ RL W ∧ Below w.heap.size w W) := hide (fun W h => ⟨gR.below h gR.lt, gQ.below h gQ.lt, gZ.below h gZ.lt, hr.to' (bthen hb0 h), hs.to' (bthen hb0 h), hR.to' (bthen hb0 h), bthen hb0 h⟩)
  have HS0 : Hid (w.heap.size + 1 + 1 < w0.heap.size) := hide gZ.lt
  obtain ⟨r0, r1⟩ := gR.two
  obtain ⟨q0, q1⟩ := gQ.two
  clear hr hs hw0 gR gQ gZ hR hb0
  unfold rpV
  unfold rpV at hk0
  go_enter Tryz.func26, Tryz.ntmps26
  go_wp2_with fail
  rw [HW0.out]
  refine hk0.mono ?_
  clear hk0 r0 r1 q0 q1
  rintro e w1 ⟨rfl, hb1⟩
  obtain ⟨gR, gQ, gZ, hsl, hsm, hRL, hbw⟩ := HH.out w1 hb1
  obtain ⟨r0, r1⟩ := gR.two
  obtain ⟨q0, q1⟩ := gQ.two
  obtain ⟨z0, z1, z2, z3⟩ := gZ.all2
  have hz := gZ.lt
  cases hV : vrB p l with
  | false =>
    have HE := hide (show mrgM p l q k = none from mg_none (.inl hV))
    have HB := hide hbw
    clear hV gR gQ gZ hsl hsm hRL hbw hb1
    go_wp2
    exact bodyPost_ret (v := .tuple #[.agg #[.int .i64 0, .slice none 0 0], .int .i64 350]) (by simp [results, Tryz.results26, go_sem, z0, z1]) rfl ⟨(HB.out.setCell (by simp; omega) _).setCell (by simp; omega) _, .inl ⟨HE.out, rfl⟩⟩
  | true =>
    have HV := hide hV
    have hk1 := c_pValid q B M d k w1 hRL hsm hM
    unfold rpV at hk1
    have h1 := hide hb1
    clear hV gR gQ gZ hsl hsm hRL hbw hb1
    go_wp2_with fail
    refine hk1.mono ?_
    clear hk1 r0 r1 q0 q1 z0 z1 z2 z3 hz
    rintro e w2 ⟨rfl, hb2⟩
    have hb02 := bthen h1.out hb2
    obtain ⟨gR, gQ, gZ, hsl, hsm, hRL, hbw⟩ := HH.out w2 hb02
    obtain ⟨r0, r1⟩ := gR.two
    obtain ⟨q0, q1⟩ := gQ.two
    obtain ⟨z0, z1, z2, z3⟩ := gZ.all2
    have hz := gZ.lt
    cases hV : vrB q k with
    | false =>
      have HE := hide (show mrgM p l q k = none from mg_none (.inr (.inl hV)))
      have HB := hide hbw
      clear hV gR gQ gZ hsl hsm hRL hbw hb2 hb02
      go_wp2
      exact bodyPost_ret (v := .tuple #[.agg #[.int .i64 0, .slice none 0 0], .int .i64 350]) (by simp [results, Tryz.results26, go_sem, z0, z1]) rfl ⟨(HB.out.setCell (by simp; omega) _).setCell (by simp; omega) _, .inl ⟨HE.out, rfl⟩⟩
    | true =>
      have HV2 := hide hV
      have hk2 := c_pcontradict A B N c M d l k w2 hN hM (vr_iff.1 HV.out).2.2.nd hsl hsm
      have h2 := hide hb02
      clear hV gR gQ gZ hsl hsm hRL hbw hb2 hb02
      go_wp2_with fail
      refine hk2.mono ?_
      clear hk2 r0 r1 q0 q1 z0 z1 z2 z3 hz
      rintro e w3 ⟨rfl, hb3⟩
      have hb03 := bthen h2.out hb3
      obtain ⟨gR, gQ, gZ, hsl, hsm, hRL, hbw⟩ := HH.out w3 hb03
      obtain ⟨z0, z1, z2, z3⟩ := gZ.all2
      have hz := gZ.lt
      cases hC : conB l k with
      | true =>
        have HE := hide (show mrgM p l q k = none from mg_none (.inr (.inr hC)))
        have HB := hide hbw
        clear hC gR gQ gZ hsl hsm hRL hbw hb3 hb03
        go_wp2
        exact bodyPost_ret (v := .tuple #[.agg #[.int .i64 0, .slice none 0 0], .int .i64 350]) (by simp [results, Tryz.results26, go_sem, z0, z1]) rfl ⟨(HB.out.setCell (by simp; omega) _).setCell (by simp; omega) _, .inl ⟨HE.out, rfl⟩⟩
      | false =>
        have HE := hide (mg_vr HV.out HV2.out hC)
        have HCp : Hid (∀ s : List Rc, s.Perm (l ++ k) → s.Pairwise (fun a b => lsB b a = false) → cpL s = mgL l k) := hide (fun s h1 h2 => cp_mg (vr_iff.1 HV.out).2.2 (vr_iff.1 HV2.out).2.2 hC h1 h2)
        have hN150 : N ≤ 150 := by have := (vr_iff.1 HV.out).2.1; have := HL.out.1; omega
        have hM150 : M ≤ 150 := by have := (vr_iff.1 HV2.out).2.1; have := HL.out.2; omega
        have h3 := hide hb03
        clear hC gR gQ gZ hsl hsm hRL hbw hb3 hb03 z0 z1 z2 z3 hz
        have H2 : Hid (∀ W, Below w3.heap.size w3 W → (W.cell? ⟨w.heap.size, 0, none⟩ = some (.int .i64 p) ∧ W.cell? ⟨w.heap.size, 1, none⟩ = some (.slice A N c) ∧ W.cell? ⟨w.heap.size + 1, 1, none⟩ = some (.slice B M d))) := hide (fun W h => by
          obtain ⟨gR, gQ, _⟩ := HH.out W (bthen h3.out h)
          exact ⟨gR.cell 0, gR.cell 1, gQ.cell 1⟩)
        have HH3 : Hid (∀ W, Below w3.heap.size w3 W → Blk W (w.heap.size + 1 + 1) 25 [.int .i64 0, .slice none 0 0] ∧ SlR W W.heap.size 7 A N (l.flatMap cR) ∧ SlR W W.heap.size 7 B M (k.flatMap cR) ∧ RL W ∧ Below w.heap.size w W) := hide (fun W h => (HH.out W (bthen h3.out h)).2.2)
        have hw3 : w.heap.size + 1 + 1 < w3.heap.size := by have := h3.out.size; have := HS0.out; omega
        clear HH
        go_upto_region 3 with (fail)
        refine wp_region_held_drew (S := fun W => W.cell? ⟨w.heap.size, 0, none⟩ = some (.int .i64 p) ∧ W.cell? ⟨w.heap.size, 1, none⟩ = some (.slice A N c) ∧ W.cell? ⟨w.heap.size + 1, 1, none⟩ = some (.slice B M d)) (by kernel_rfl) (H2.out _ (bdrew (Below.refl _ _))) (fun hHeld => ?_)
        refine wpAnyH_take (i := 0) (v := ?_) rfl (by kernel_rfl) (by kernel_rfl) (by kernel_rfl) (fun _ _ _ h => h) (Or.inl ⟨by rfl, ?hy1⟩) (by assumption) ?rs1
        case hy1 => (intro w hSw; (try dsimp only at hSw); go_simp; try (with_reducible rfl))
        (try simp only [Act.put, List.setIfInBounds_toArray, List.set_cons_zero, List.set_cons_succ, List.getElem_toArray, List.getElem_cons_zero, List.getElem_cons_succ])
        refine wpAnyH_take (i := 1) (v := ?_) rfl (by kernel_rfl) (by kernel_rfl) (by kernel_rfl) (fun _ _ _ h => h) (Or.inl ⟨by rfl, ?hy2⟩) (by assumption) ?rs2
        case hy2 => (intro w hSw; (try dsimp only at hSw); go_simp; try (with_reducible rfl))
        (try simp only [Act.put, List.setIfInBounds_toArray, List.set_cons_zero, List.set_cons_succ, List.getElem_toArray, List.getElem_cons_zero, List.getElem_cons_succ])
        refine wpAnyH_take (i := 2) (v := ?_) rfl (by kernel_rfl) (by kernel_rfl) (by kernel_rfl) (fun _ _ _ h => h) (Or.inl ⟨by rfl, ?hy3⟩) (by assumption) ?rs3
        case hy3 => (intro w hSw; (try dsimp only at hSw); go_simp; try (with_reducible rfl))
        (try simp only [Act.put, List.setIfInBounds_toArray, List.set_cons_zero, List.set_cons_succ, List.getElem_toArray, List.getElem_cons_zero, List.getElem_cons_succ])
        refine wpAnyH_take (i := 3) (v := ?_) rfl (by kernel_rfl) (by kernel_rfl) (by kernel_rfl) (fun _ _ _ h => h) (Or.inl ⟨by rfl, ?hy4⟩) (by assumption) ?rs4
        case hy4 => (intro w hSw; (try dsimp only at hSw); go_simp; try (with_reducible rfl))
        (try simp only [Act.put, List.setIfInBounds_toArray, List.set_cons_zero, List.set_cons_succ, List.getElem_toArray, List.getElem_cons_zero, List.getElem_cons_succ])
        refine wpAnyH_take (i := 4) (v := ?_) rfl (by kernel_rfl) (by kernel_rfl) (by kernel_rfl) (fun _ _ _ h => h) (Or.inl ⟨by rfl, ?hy5⟩) (by assumption) ?rs5
        case hy5 => (intro w hSw; (try dsimp only at hSw); go_simp; try (with_reducible rfl))
        (try simp only [Act.put, List.setIfInBounds_toArray, List.set_cons_zero, List.set_cons_succ, List.getElem_toArray, List.getElem_cons_zero, List.getElem_cons_succ])
        refine wpAnyH_take (i := 5) (v := ?_) rfl (by kernel_rfl) (by kernel_rfl) (by kernel_rfl) (fun _ _ _ h => h) (Or.inl ⟨by rfl, ?hy6⟩) (by assumption) ?rs6
        case hy6 => (intro w hSw; (try dsimp only at hSw); go_simp; try (with_reducible rfl))
        (try simp only [Act.put, List.setIfInBounds_toArray, List.set_cons_zero, List.set_cons_succ, List.getElem_toArray, List.getElem_cons_zero, List.getElem_cons_succ])
        have hA := bdrew (Below.refl w3.heap.size w3)
        have hmg := c_pmerged A B N c M d l k _ (by omega) (by omega) (HH3.out _ hA).2.1 (HH3.out _ hA).2.2.1
        have HA := hide hA
        clear hA
        refine wpAnyH_ready (rs := [6]) (by kernel_rfl) (by simp) ?_
        refine AllReadyH.cons rfl (fun K hK => ?_) ?_
        · go_simp
          refine hmg.mono ?_
          clear hmg
          rintro e w4 ⟨v4, s, rfl, hp, hs, hown, hb4⟩
          obtain ⟨A4, c4, rfl, h41, h42, -⟩ := SlR.of_own hown
          have hcs := HCp.out s hp hs
          rw [hcs] at hown h41 ⊢
          have HO := hide (And.intro hown (bthen HA.out hb4))
          clear hown hb4 hp hs hcs
          refine hK.out _ _ (by exact (H2.out _ HO.out.2)) (fun hHeld => ?_)
          clear hK K
          (try simp only [Act.put, List.setIfInBounds_toArray, List.set_cons_zero, List.set_cons_succ, List.getElem_toArray, List.getElem_cons_zero, List.getElem_cons_succ])
          refine wpAnyH_take (i := 7) (v := ?_) rfl (by kernel_rfl) (by kernel_rfl) (by kernel_rfl) (fun _ _ _ h => h) (Or.inl ⟨by rfl, ?hy7⟩) (by assumption) ?rs7
          case hy7 => (intro w hSw; (try dsimp only at hSw); go_simp; try (with_reducible rfl))
          (try simp only [Act.put, List.setIfInBounds_toArray, List.set_cons_zero, List.set_cons_succ, List.getElem_toArray, List.getElem_cons_zero, List.getElem_cons_succ])
          have hck := c_pchecked p A4 (mgL l k).length c4 (mgL l k) w4 (HH3.out _ HO.out.2).2.2.2.1 (own_row HO.out.1).2.2 (by unfold maxLen at h42; omega)
          refine wpAnyH_ready (rs := [8]) (by kernel_rfl) (by simp) ?_
          refine AllReadyH.cons rfl (fun K hK => ?_) ?_
          · go_simp
            refine hck.mono ?_
            clear hck
            rintro e w5 ⟨rfl, hb5⟩
            have hb05 := bthen HO.out.2 hb5
            have gZ5 := (HH3.out _ hb05).1
            obtain ⟨z0, z1, z2, z3⟩ := gZ5.all2
            have hz5 := gZ5.lt
            have H5 := hide (And.intro (own_sln (own_to HO.out.1 hb5)) (And.intro hb05 gZ5))
            clear hb5 hb05 gZ5
            cases hV : vrB p (mgL l k) with
            | false =>
              simp only [ckV, Bool.false_eq_true, if_false]
              have HQ := hide (show mrgM p l q k = none by rw [HE.out, hV]; rfl)
              clear hV
              refine hK.out _ _ (by exact (H2.out _ H5.out.2.1)) (fun hHeld => ?_)
              clear hK K
              (try simp only [Act.put, List.setIfInBounds_toArray, List.set_cons_zero, List.set_cons_succ, List.getElem_toArray, List.getElem_cons_zero, List.getElem_cons_succ])
              refine wpAnyH_take (i := 9) (v := ?_) rfl (by kernel_rfl) (by kernel_rfl) (by kernel_rfl) (fun _ _ _ h => h) (Or.inl ⟨by rfl, ?hy8⟩) (by assumption) ?rs8
              case hy8 => (intro w hSw; (try dsimp only at hSw); go_simp; try (with_reducible rfl))
              (try simp only [Act.put, List.setIfInBounds_toArray, List.set_cons_zero, List.set_cons_succ, List.getElem_toArray, List.getElem_cons_zero, List.getElem_cons_succ])
              refine wpAnyH_take (i := 10) (v := ?_) rfl (by kernel_rfl) (by kernel_rfl) (by kernel_rfl) (fun _ _ _ h => h) (Or.inl ⟨by rfl, ?hy9⟩) (by assumption) ?rs9
              case hy9 => (intro w hSw; (try dsimp only at hSw); go_simp; try (with_reducible rfl))
              (try simp only [Act.put, List.setIfInBounds_toArray, List.set_cons_zero, List.set_cons_succ, List.getElem_toArray, List.getElem_cons_zero, List.getElem_cons_succ])
              refine wpAnyH_ready (rs := [11]) (by kernel_rfl) (by simp) ?_
              refine AllReadyH.cons rfl (fun K hK => ?_) ?_
              · go_simp
                refine hK.out _ _ (by exact ⟨(cell_set2 w5 _ (w.heap.size + 1 + 1) _ _ (by dsimp only; omega)).trans (H2.out _ H5.out.2.1).1, (cell_set2 w5 _ (w.heap.size + 1 + 1) _ _ (by dsimp only; omega)).trans (H2.out _ H5.out.2.1).2.1, (cell_set2 w5 _ (w.heap.size + 1 + 1) _ _ (by dsimp only; omega)).trans (H2.out _ H5.out.2.1).2.2⟩) (fun hHeld => ?_)
                clear hK K
                (try simp only [Act.put, List.setIfInBounds_toArray, List.set_cons_zero, List.set_cons_succ, List.getElem_toArray, List.getElem_cons_zero, List.getElem_cons_succ])
                refine wpAnyH_take (i := 12) (v := ?_) rfl (by kernel_rfl) (by kernel_rfl) (by kernel_rfl) (fun _ _ _ h => h) (Or.inl ⟨by rfl, ?hy10⟩) (by assumption) ?rs10
                case hy10 => (intro w hSw; (try dsimp only at hSw); go_simp; try (with_reducible rfl))
                (try simp only [Act.put, List.setIfInBounds_toArray, List.set_cons_zero, List.set_cons_succ, List.getElem_toArray, List.getElem_cons_zero, List.getElem_cons_succ])
                refine wpAnyH_done (by kernel_rfl) ?_ _
                go_wp2_with fail
                exact bodyPost_ret (v := .tuple #[.agg #[.int .i64 0, .slice none 0 0], .int .i64 350]) (by simp [results, Tryz.results26, go_sem, z0, z1]) rfl ⟨((HH3.out _ H5.out.2.1).2.2.2.2.setCell (by simp; omega) _).setCell (by simp; omega) _, .inl ⟨HQ.out, rfl⟩⟩
              · exact AllReadyH.nil
            | true =>
              simp only [ckV, if_true]
              have HQ := hide (show mrgM p l q k = some (mgL l k) by rw [HE.out, hV]; rfl)
              clear hV
              refine hK.out _ _ (by exact (H2.out _ H5.out.2.1)) (fun hHeld => ?_)
              clear hK K
              (try simp only [Act.put, List.setIfInBounds_toArray, List.set_cons_zero, List.set_cons_succ, List.getElem_toArray, List.getElem_cons_zero, List.getElem_cons_succ])
              refine wpAnyH_take (i := 9) (v := ?_) rfl (by kernel_rfl) (by kernel_rfl) (by kernel_rfl) (fun _ _ _ h => h) (Or.inl ⟨by rfl, ?hy11⟩) (by assumption) ?rs11
              case hy11 => (intro w hSw; (try dsimp only at hSw); go_simp; try (with_reducible rfl))
              (try simp only [Act.put, List.setIfInBounds_toArray, List.set_cons_zero, List.set_cons_succ, List.getElem_toArray, List.getElem_cons_zero, List.getElem_cons_succ])
              refine wpAnyH_take (i := 10) (v := ?_) rfl (by kernel_rfl) (by kernel_rfl) (by kernel_rfl) (fun _ _ _ h => h) (Or.inl ⟨by rfl, ?hy12⟩) (by assumption) ?rs12
              case hy12 => (intro w hSw; (try dsimp only at hSw); go_simp; try (with_reducible rfl))
              (try simp only [Act.put, List.setIfInBounds_toArray, List.set_cons_zero, List.set_cons_succ, List.getElem_toArray, List.getElem_cons_zero, List.getElem_cons_succ])
              refine wpAnyH_ready (rs := [11]) (by kernel_rfl) (by simp) ?_
              refine AllReadyH.cons rfl (fun K hK => ?_) ?_
              · go_simp
                refine hK.out _ _ (by exact ⟨(cell_set2 w5 _ (w.heap.size + 1 + 1) _ _ (by dsimp only; omega)).trans (H2.out _ H5.out.2.1).1, (cell_set2 w5 _ (w.heap.size + 1 + 1) _ _ (by dsimp only; omega)).trans (H2.out _ H5.out.2.1).2.1, (cell_set2 w5 _ (w.heap.size + 1 + 1) _ _ (by dsimp only; omega)).trans (H2.out _ H5.out.2.1).2.2⟩) (fun hHeld => ?_)
                clear hK K
                (try simp only [Act.put, List.setIfInBounds_toArray, List.set_cons_zero, List.set_cons_succ, List.getElem_toArray, List.getElem_cons_zero, List.getElem_cons_succ])
                refine wpAnyH_take (i := 12) (v := ?_) rfl (by kernel_rfl) (by kernel_rfl) (by kernel_rfl) (fun _ _ _ h => h) (Or.inl ⟨by rfl, ?hy13⟩) (by assumption) ?rs13
                case hy13 => (intro w hSw; (try dsimp only at hSw); go_simp; try (with_reducible rfl))
                (try simp only [Act.put, List.setIfInBounds_toArray, List.set_cons_zero, List.set_cons_succ, List.getElem_toArray, List.getElem_cons_zero, List.getElem_cons_succ])
                refine wpAnyH_done (by kernel_rfl) ?_ _
                go_wp2_with fail
                refine bodyPost_ret (v := .tuple #[.agg #[.int .i64 p, .slice A4 (mgL l k).length c4], .int .i64 0]) (by simp [results, Tryz.results26, go_sem, z0, z1]) rfl ⟨((HH3.out _ H5.out.2.1).2.2.2.2.setCell (by simp; omega) _).setCell (by simp; omega) _, .inr ⟨_, A4, c4, HQ.out, rfl, h41, by unfold maxLen at h42; omega, ?_⟩⟩
                exact ((H5.out.1.set ⟨w.heap.size + 1 + 1, 0, none⟩ (by simp; omega) _).set ⟨w.heap.size + 1 + 1, 1, none⟩ (by simp; omega) _).mono (by simp; omega)
              · exact AllReadyH.nil
          · exact AllReadyH.nil
        · exact AllReadyH.nil
end Go.Proofs.YtcfbgelhggapjaaGreatDoor
/- Replica: slices.Clone and slices.DeleteFunc at records, the package's Behind. -/
namespace Go.Proofs.YtcfbgelhggapjaaGreatDoor
open Go.RowKit Go.Shelf
theorem c_sClone (A : Option Addr) (n c : Nat) (l : List Rc) (w : World) (hn : n ≤ 1000000) (hr : SlR w w.heap.size 7 A n (l.flatMap cR)) :
    Calls Tryz.prog 66 #[.slice A n c] w fun e w' => ∃ v, e = .returned v ∧ w'.ownsRow w.heap.size 49 7 v n (l.flatMap cR) ∧ Below w.heap.size w w' := by
  obtain ⟨i0, hi, hz0, hz1, hz2⟩ := info_parts Tryz.infoRec
  cases A with
  | none =>
    have h0 : n = 0 := by
      rcases Nat.eq_zero_or_pos n with h | h
      · exact h
      · obtain ⟨_, _, he, _⟩ := hr.2 h; cases he
    subst h0
    have hnil := hr.zero rfl
    rw [hnil]
    clear hnil hr
    have hq : ∀ w, (binOp .eql 23 (.slice none 0 c) (.slice none 0 0)).run Tryz.prog w = .ok (.bool true) w := fun w => Lib.run_eql_slice_nil w _ _ none 0 c 0 0 Tryz.underlying23
    go_enter Tryz.func66, Tryz.ntmps66
    go_wp2
    go_ret
    exact ⟨_, rfl, World.ownsRow_nil _ _ _ _, Below.refl _ _⟩
  | some a =>
    have hown : (w.alloc (.cells #[] 49)).ownsRow w.heap.size 49 7 (.slice (some ⟨w.heap.size, 0, none⟩) 0 0) 0 [] :=
      ⟨by simp, .inr ⟨w.heap.size, 0, #[], rfl, Nat.le_refl _, heap_alloc_new w (.cells #[] 49), Nat.le_refl _, Nat.zero_le _, by simp, by simp⟩⟩
    have hr1 := hr.to' (balloc (Below.refl w.heap.size w) (.cells #[] 49))
    clear hr
    have hq : ∀ w, (binOp .eql 23 (.slice (some a) n c) (.slice none 0 0)).run Tryz.prog w = .ok (.bool false) w := fun w => Lib.run_eql_slice_nil w _ _ (some a) n c 0 0 Tryz.underlying23
    go_enter Tryz.func66, Tryz.ntmps66
    go_wp2_with (at_builtin; refine wpList_append_sl (size := 7) rfl _ _ 23 rfl w.heap.size 49 i0 zV 64 Tryz.underlying23 hi hz0 hz1 hz2 rfl (by decide) _ 0 [] rfl hown n c (l.flatMap cR) rfl hr1 (Below.refl _ _) (fun u hu => oneR l u hu) (by unfold maxLen; omega) (by omega) (by simp) ?_; intro v6 w6 hown6 hgrow6 hor6)
    go_ret
    rw [Nat.zero_add, List.nil_append] at hown6
    exact ⟨_, rfl, hown6, bgrown (balloc (Below.refl _ _) _) hgrow6 (fun k e => by cases e; exact Nat.le_refl _)⟩
/-- the work of DeleteFunc's loop: x elements of l are done, i of them are kept, at the front of m -/
def DlI (p : Rc → Bool) (l m : List Rc) (i x : Nat) : Prop := m.length = l.length ∧ i < x ∧ m.take i = (l.take x).filter (fun r => !p r) ∧ ∀ j, x ≤ j → m[j]? = l[j]?
theorem DlI.skip {p : Rc → Bool} {l m : List Rc} {i x : Nat} (h : DlI p l m i x) (hx : x < l.length) (e : p l[x] = true) : DlI p l m i (x + 1) := by
  obtain ⟨h1, h2, h3, h4⟩ := h
  refine ⟨h1, by omega, ?_, fun j hj => h4 j (by omega)⟩
  rw [List.take_succ_eq_append_getElem hx, List.filter_append, h3]
  simp [e]
theorem DlI.keep {p : Rc → Bool} {l m : List Rc} {i x : Nat} (h : DlI p l m i x) (hx : x < l.length) (e : p l[x] = false) : DlI p l (m.set i l[x]) (i + 1) (x + 1) := by
  obtain ⟨h1, h2, h3, h4⟩ := h
  refine ⟨by simpa using h1, by omega, ?_, fun j hj => ?_⟩
  · rw [List.take_succ_eq_append_getElem hx, List.filter_append, ← h3, List.take_succ_eq_append_getElem (by simp; omega)]
    congr 1
    · rw [List.take_set_of_le (Nat.le_refl _)]
    · simp [e]
  · rw [List.getElem?_set, if_neg (by omega)]
    exact h4 j (by omega)
theorem DlI.start {p : Rc → Bool} {l : List Rc} {j : Nat} (hj : j < l.length) (h1 : p l[j] = true) (h2 : ∀ i (hi : i < j), p (l[i]'(by omega)) = false) : DlI p l l j (j + 1) := by
  refine ⟨rfl, by omega, ?_, fun _ _ => rfl⟩
  rw [List.take_succ_eq_append_getElem hj, List.filter_append]
  have : (l.take j).filter (fun r => !p r) = l.take j := List.filter_eq_self.2 (fun r hr => by
    obtain ⟨i, hi, rfl⟩ := List.mem_take_iff_getElem.1 hr
    rw [h2 i (by omega)]; rfl)
  rw [this]
  simp [h1]
set_option linter.unusedSimpArgs false in
set_option maxRecDepth 100000 in
set_option maxHeartbeats 8000000 in
theorem c_sDelete (p : Rc → Bool) (g : Nat) (lb : Array Value) (eg : ∀ args w, (callFunc g args).run Tryz.prog w = .ok (.enter g args) w) (l : List Rc) (A : Option Addr) (cap base : Nat) (w : World) (hl : l.length ≤ 1000000) (hbase : base ≤ w.heap.size)
    (hp : ∀ (W : World) (s : Rc), Below base w W → Calls Tryz.prog g (#[rcV s] ++ lb) W fun e w' => e = .returned (.bool (p s)) ∧ Below W.heap.size W w') (h : w.ownsRow base 49 7 (.slice A l.length cap) l.length (l.flatMap cR)) :
    Calls Tryz.prog 65 #[.slice A l.length cap, .func (.func g) #[] lb] w fun e w' => ∃ v, e = .returned v ∧ w'.ownsRow base 49 7 v (l.filter (fun r => !p r)).length ((l.filter (fun r => !p r)).flatMap cR) ∧ Below base w w' := by
  have hsl := (own_row h).2.2
  have hci := c_sIndex p g lb eg A l.length cap l w (by omega) (fun W s hW => (hp W s (hW.mono hbase)).mono fun e w' q => ⟨q.1, bthen hW q.2⟩) hsl
  rcases idxF_cases p l 0 with ⟨h1, h2, _⟩ | ⟨j, hj, h1, -, -, h4, h5⟩
  · have HF := hide (show l.filter (fun r => !p r) = l from List.filter_eq_self.2 (fun r hr => by
      rw [List.any_eq_false] at h2
      have := h2 r hr
      simpa using this))
    rw [h1] at hci
    have HO := hide h
    obtain ⟨N, hN⟩ : ∃ N, N = l.length := ⟨_, rfl⟩
    rw [← hN] at hci ⊢
    have HN := hide hN
    clear h hsl h1 h2 hN hp
    go_enter Tryz.func65, Tryz.ntmps65
    go_wp2_with (go_at_call 86; refine hci.mono ?_; clear hci; rintro e w1 ⟨rfl, hb⟩)
    go_ret
    refine ⟨_, rfl, ?_, hb.mono hbase⟩
    rw [HF.out]
    have h := own_to HO.out hb
    rw [← HN.out] at h ⊢
    exact h
  · rw [h1] at hci
    rw [Nat.zero_add] at hci
    obtain ⟨gr, cap', hv, hM⟩ := RowM.of_own h (by omega)
    simp only [Value.slice.injEq, true_and] at hv
    obtain ⟨rfl, rfl⟩ := hv
    have hcL := fun (k : Nat) (hk : k < l.length) (W : World) => hM.cutLo hk W
    have hcH := fun (k : Nat) (hk : k ≤ l.length) (W : World) => hM.cutHi hk W
    obtain ⟨N, hN⟩ : ∃ N, N = l.length := ⟨_, rfl⟩
    rw [← hN] at hci hcL hcH hl ⊢
    have HN := hide hN
    have HCL := hide hcL
    have HCH := hide hcH
    have HM := hide hM
    have HP := hide hp
    have HI0 := hide (DlI.start hj h4 h5)
    have hjN : j < N := by omega
    have hcap : N ≤ cap := by rw [hN]; exact hM.2.1
    have hne : ((j : Int) == -1) = false := by simp
    clear h hsl h1 h4 h5 hN hp hM hcL hcH
    go_enter Tryz.func65, Tryz.ntmps65
    go_wp2_with (go_at_call 86; refine hci.mono ?_; clear hci; rintro e w1 ⟨rfl, hb1⟩)
    go_loopw [5, 6] (fun i x wr => ∃ (i' x' : Nat) (m : List Rc), i = .int .i64 i' ∧ x = .int .i64 x' ∧ x' ≤ N ∧ Hid (DlI p l m i' x') ∧ RowM wr base gr cap m ∧ Below base w wr) (fun _ x _ => N - (intOf x).toNat)
    case atStart => exact ⟨j, j + 1, l, rfl, by go_num, by omega, HI0, HM.out.to hb1, hb1.mono hbase⟩
    case round =>
      clear HI0 hb1
      obtain ⟨i', x', m, rfl, rfl, hxN, HI, hM, hb⟩ := hrel
      have hml : m.length = N := by have := HI.out.1; have := HN.out; omega
      have hix : i' < x' := HI.out.2.1
      by_cases hlt : x' < N
      · have hji : (x' : Int) < (N : Int) := by omega
        have hxm : x' < m.length := by omega
        have hxl : x' < l.length := by have := HN.out; omega
        obtain ⟨y0, y1, y2, y3, y4, y5, y6⟩ := hM.cells hxm
        have ex : m[x'] = l[x'] := by
          have h4 := HI.out.2.2.2 x' (Nat.le_refl _)
          rw [List.getElem?_eq_getElem hxm, List.getElem?_eq_getElem hxl] at h4
          exact Option.some.inj h4
        rw [ex] at y0 y1 y2 y3 y4 y5 y6
        have HSk := hide (fun (e : p l[x'] = true) => HI.out.skip hxl e)
        have HKp := hide (fun (e : p l[x'] = false) => HI.out.keep hxl e)
        have him : Hid (i' < m.length) := hide (by omega)
        have hiN : (i' : Int) < (N : Int) := by omega
        have hgw := hM.lt
        have HMw := hide hM
        have HB := hide hb
        have hbw : base ≤ wr.heap.size := by have := hb.size; omega
        clear ex hM hb hml HI
        generalize l[x'] = y at *
        have hcall := HP.out (wr.alloc (.cells (cR y).toArray 49)) y (HB.out.alloc hbw _)
        obtain ⟨py, hpy⟩ : ∃ py, p y = py := ⟨_, rfl⟩
        rw [hpy] at hcall HSk HKp
        unfold rcV at hcall
        unfold cR at hcall
        have hA := balloc (Below.refl wr.heap.size wr) (.cells #[.int .i64 y.pen, .int .i64 y.num, .int .i64 y.at_, .int .i64 y.of, .int .i64 y.which, .int .i64 y.kind, .string y.text] 49)
        have gY : Blk (wr.alloc (.cells #[.int .i64 y.pen, .int .i64 y.num, .int .i64 y.at_, .int .i64 y.of, .int .i64 y.which, .int .i64 y.kind, .string y.text] 49)) wr.heap.size 49 (cR y) := Blk.new wr 49 (cR y)
        clear hpy
        cases py with
        | true =>
          have HZ := hide (HSk.out rfl)
          clear HSk HKp
          go_wp2_with (go_at_fn g; refine hcall.mono ?_; clear hcall; rintro e w5 ⟨rfl, hb5⟩; have hb15 := bthen hA hb5; obtain ⟨z0, z1, z2, z3, z4, z5, z6⟩ := (gY.below hb5 gY.lt).allR; have hgz := (gY.below hb5 gY.lt).lt; have HM5 := hide (HMw.out.to hb15); have HB5 := hide (HB.out.trans (hb15.mono hbw)); obtain ⟨c0, c1, c2, c3, c4, c5, c6⟩ := HM5.out.cells him.out; obtain ⟨f0, f1, f2, f3, f4, f5, f6⟩ := HM5.out.fr i'; have hg5 := HM5.out.lt; clear hA gY hb5 hb15)
          go_roundw
          case rel => exact ⟨i', x' + 1, m, rfl, by go_num, by omega, HZ, HM5.out, HB5.out⟩
          case measure => simp [intOf]; omega
        | false =>
          have HZ := hide (HKp.out rfl)
          clear HSk HKp
          go_wp2_with (go_at_fn g; refine hcall.mono ?_; clear hcall; rintro e w5 ⟨rfl, hb5⟩; have hb15 := bthen hA hb5; obtain ⟨z0, z1, z2, z3, z4, z5, z6⟩ := (gY.below hb5 gY.lt).allR; have hgz := (gY.below hb5 gY.lt).lt; have HM5 := hide (HMw.out.to hb15); have HB5 := hide (HB.out.trans (hb15.mono hbw)); obtain ⟨c0, c1, c2, c3, c4, c5, c6⟩ := HM5.out.cells him.out; obtain ⟨f0, f1, f2, f3, f4, f5, f6⟩ := HM5.out.fr i'; have hg5 := HM5.out.lt; clear hA gY hb5 hb15)
          go_roundw
          case rel =>
            have hbg : base ≤ gr := HM5.out.1
            refine ⟨i' + 1, x' + 1, m.set i' y, by go_num, by go_num, by omega, HZ, HM5.out.store him.out y, ?_⟩
            exact (((((((HB5.out).setCell hbg _).setCell hbg _).setCell hbg _).setCell hbg _).setCell hbg _).setCell hbg _).setCell hbg _
          case measure => simp [intOf]; omega
      · obtain rfl : x' = N := by omega
        obtain ⟨W, hW1, hW2, hW3⟩ := hM.clear (k := i') (by omega)
        rw [hml] at hW1
        have hc1 := HCL.out i' (by omega)
        have hc2 := HCH.out i' (by omega)
        have hii : (i' : Int) ≤ (x' : Int) := by omega
        have HF := hide (show m.take i' = l.filter (fun r => !p r) by
          have h3 := HI.out.2.2.1
          rw [HN.out, List.take_length] at h3
          exact h3)
        have HLn := hide (show (l.filter (fun r => !p r)).length = i' by rw [← HF.out, List.length_take]; omega)
        have HW := hide (And.intro hW2 (hb.trans hW3))
        clear hM hb hW2 hW3 hml HI
        go_wp2
        go_ret
        refine ⟨_, rfl, ?_, HW.out.2⟩
        have h := HW.out.1.own
        rw [HF.out, HLn.out] at h
        rw [HLn.out]
        exact h
end Go.Proofs.YtcfbgelhggapjaaGreatDoor
/- Replica: the package's Behind. -/
namespace Go.Proofs.YtcfbgelhggapjaaGreatDoor
open Go.RowKit Go.Shelf
/-- the answer: a list of records, or an error -/
def BehPost (o : Option (List Rc)) (w : World) (e : Ending) (w' : World) : Prop :=
  Below w.heap.size w w' ∧ ((o = none ∧ e = .returned (.tuple #[.slice none 0 0, .int .i64 350])) ∨
    ∃ m A c, o = some m ∧ e = .returned (.tuple #[.slice A m.length c, .int .i64 0]) ∧ m.length ≤ c ∧ c ≤ 9223372036854775807 ∧ SlN w' w.heap.size 7 A m.length (m.flatMap cR))
theorem mg_beh {p q : Int} {a b : List Rc} : behM p a q b = (mrgM p a q b).map (fun _ => newL a b) := by
  unfold behM mrgM
  split <;> rfl
set_option linter.unusedSimpArgs false in
set_option maxRecDepth 100000 in
set_option maxHeartbeats 8000000 in
theorem c_pBehind (p : Int) (A : Option Addr) (N c : Nat) (l : List Rc) (q : Int) (B : Option Addr) (M d : Nat) (k : List Rc) (w : World) (hR : RL w) (hN : N ≤ 9223372036854775807) (hM : M ≤ 9223372036854775807) (hr : SlR w w.heap.size 7 A N (l.flatMap cR)) (hs : SlR w w.heap.size 7 B M (k.flatMap cR)) :
    Calls Tryz.prog 28 #[rpV p A N c, rpV q B M d] w (BehPost (behM p l q k) w) := by
  have hb0 := balloc (balloc (Below.refl w.heap.size w) (.cells #[.int .i64 p, .slice A N c] 25)) (.cells #[.int .i64 q, .slice B M d] 25)
  obtain ⟨w0, hw0⟩ : ∃ w0, (w.alloc (.cells #[.int .i64 p, .slice A N c] 25)).alloc (.cells #[.int .i64 q, .slice B M d] 25) = w0 := ⟨_, rfl⟩
  have gR : Blk w0 w.heap.size 25 [.int .i64 p, .slice A N c] := by rw [← hw0]; exact (Blk.new w 25 [.int .i64 p, .slice A N c]).alloc _
  have gQ : Blk w0 (w.heap.size + 1) 25 [.int .i64 q, .slice B M d] := by
    rw [← hw0]
    have := Blk.new (w.alloc (.cells #[.int .i64 p, .slice A N c] 25)) 25 [.int .i64 q, .slice B M d]
    rw [show (w.alloc (.cells #[.int .i64 p, .slice A N c] 25)).heap.size = w.heap.size + 1 from by simp] at this
    exact this
  rw [hw0] at hb0
  have HW0 := hide hw0
  have HL := hide (And.intro hr.lenR hs.lenR)
  have hk0 := c_pMerge p A N c l q B M d k w0 (hR.to' hb0) hN hM (hr.to' hb0) (hs.to' hb0)
  have HH : Hid (∀ W, Below w0.heap.size w0 W → Blk W w.heap.size 25 [.int .i64 p, .slice A N c] ∧ Blk W (w.heap.size + 1) 25 [.int .i64 q, .slice B M d] ∧ SlR W W.heap.size 7 A N (l.flatMap cR) ∧ SlR W W.heap.size 7 B M (k.flatMap cR) ∧ RL W ∧ Below w.heap.size w W) := hide (fun W h => ⟨gR.below h gR.lt, gQ.below h gQ.lt, hr.to' (bthen hb0 h), hs.to' (bthen hb0 h), hR.to' (bthen hb0 h), bthen hb0 h⟩)
  obtain ⟨r0, r1⟩ := gR.two
  obtain ⟨q0, q1⟩ := gQ.two
  rw [mg_beh]
  unfold rpV
  unfold rpV at hk0
  have HS0 : Hid (w.heap.size + 1 < w0.heap.size) := hide gQ.lt
  clear hr hs hw0 gR gQ hR hb0
  go_enter Tryz.func28, Tryz.ntmps28
  go_wp2_with fail
  rw [HW0.out]
  refine hk0.mono ?_
  clear hk0 r0 r1 q0 q1
  rintro e w1 ⟨hb1, ⟨hmn, rfl⟩ | ⟨mm, Am, cm, hms, rfl, hm1, hm2, hm3⟩⟩
  · have HB := hide (HH.out w1 hb1).2.2.2.2.2
    have HE := hide (show (mrgM p l q k).map (fun _ => newL l k) = none by rw [hmn]; rfl)
    clear hmn hb1
    unfold rpV
    go_wp2
    go_ret2
    exact ⟨balloc HB.out _, .inl ⟨HE.out, rfl⟩⟩
  · obtain ⟨hok, -⟩ := mrg_some hms
    obtain ⟨ha, hb, -, -⟩ := mgOk_iff.1 hok
    have HE := hide (show (mrgM p l q k).map (fun _ => newL l k) = some (newL l k) by rw [hms]; rfl)
    have HVa := hide (vr_iff.1 ha)
    have HVb := hide (vr_iff.1 hb)
    have hA := balloc (Below.refl w1.heap.size w1) (.cells #[.int .i64 p, .slice Am mm.length cm] 25)
    obtain ⟨gR, gQ, hsl, hsm, hRL, hbw⟩ := HH.out _ (bthen hb1 hA)
    obtain ⟨r0, r1⟩ := gR.two
    obtain ⟨q0, q1⟩ := gQ.two
    have hgr := gR.lt
    have hgq := gQ.lt
    have hcb := c_pbooked A N c l _ HVa.out.2.2.nd hN hsl
    have h1 := hide (bthen hb1 hA)
    have hr1 : w.heap.size < w1.heap.size := by have := hb1.size; have := HS0.out; omega
    have hr2 : w.heap.size + 1 < w1.heap.size := by have := hb1.size; have := HS0.out; omega
    obtain ⟨gR1, gQ1, _⟩ := HH.out _ hb1
    obtain ⟨s0, s1⟩ := gR1.two
    clear hm1 hm2 hm3 hms hok ha hb gR gQ hsl hsm hRL hbw hA hb1 gR1 gQ1
    unfold rpV
    go_wp2_with (go_at_call 52; refine hcb.mono ?_; clear hcb r0 r1 q0 q1 s0 s1; rintro e w2 ⟨b, rfl, hbb, hbk, hb2⟩; have h2 := bthen h1.out hb2; obtain ⟨gQ2, -⟩ := (HH.out _ h2).2; obtain ⟨t0, t1⟩ := gQ2.two; have h2s : w.heap.size + 1 < w2.heap.size := (Nat.lt_of_lt_of_le HS0.out (by have := h2.size; omega)))
    have hA2 := balloc (Below.refl w2.heap.size w2) (.cells #[.map (some b)] 79)
    obtain ⟨gR, gQ, hsl, hsm, hRL, hbw⟩ := HH.out _ (bthen h2 hA2)
    obtain ⟨q0, q1⟩ := gQ.two
    have hgq := gQ.lt
    have gF := Blk.new w2 79 [.map (some b)]
    have hM150 : M ≤ 150 := by have := HVb.out.2.1; have := HL.out.2; omega
    have hcl := c_sClone B M d k _ (by omega) hsm
    obtain ⟨w3, hw3⟩ : ∃ w3, w2.alloc (.cells #[.map (some b)] 79) = w3 := ⟨_, rfl⟩
    rw [hw3] at hcl hA2 gF hbw
    have HBK := hide (hbk.to hA2)
    have HGF := hide gF
    have HBW := hide hbw
    have HW3 := hide hw3
    have HQ3 : Hid (w2.heap.size < w3.heap.size) := hide gF.lt
    clear hbk hb2 h2 hA2 gR gQ hsl hsm hRL hbw gF hw3 gQ2
    go_wp2_with (go_at_call 66; rw [HW3.out]; refine hcl.mono ?_; clear hcl q0 q1 t0 t1; rintro e w4 ⟨v4, rfl, hown, hb4⟩; obtain ⟨A4, c4, rfl, h41, h42, -⟩ := SlR.of_own hown)
    have hlM : k.length = M := HL.out.2
    rw [← hlM] at hown
    have hdl := c_sDelete (isF l) 67 #[.pointer (some ⟨w2.heap.size, 0, none⟩)] (enters_of Tryz.func67 (by kernel_rfl) rfl) k A4 c4 w3.heap.size w4 (by omega) hb4.size
      (fun W s hW => by
        have h3W : Below w3.heap.size w3 W := hb4.trans hW
        exact c_pBehindC1 b w2.heap.size l s W ((HGF.out.below h3W HGF.out.lt).cell 0) (HBK.out.to h3W)) hown
    rw [hlM] at hdl
    have H4 := hide (bthen HBW.out hb4)
    have hs34 : Hid (w3.heap.size ≤ w4.heap.size) := hide hb4.size
    have HB34 := hide hb4
    clear hown hb4 hlM
    go_wp2_with (go_at_call 65; refine hdl.mono ?_; clear hdl; rintro e w5 ⟨v5, rfl, hown5, hb5⟩; obtain ⟨A5, c5, rfl, h51, h52, -⟩ := SlR.of_own hown5)
    have HO := hide (And.intro hown5 hb5)
    have HM := hide (And.intro h51 h52)
    clear hown5 hb5 h51 h52
    go_ret2
    have hnl : newL l k = k.filter (fun r => !isF l r) := by
      unfold newL isF
      congr 1
      funext r
      cases fdR (keyR r) l <;> rfl
    have h03 : w.heap.size ≤ w3.heap.size := HBW.out.size
    refine ⟨(HBW.out.trans ((HB34.out.mono h03).trans (HO.out.2.mono h03))), .inr ⟨newL l k, A5, c5, HE.out, ?_, ?_, ?_, ?_⟩⟩
    · rw [hnl]; rfl
    · rw [hnl]; exact HM.out.1
    · have := HM.out.2; unfold maxLen at this; omega
    · rw [hnl]; exact (own_sln HO.out.1).mono h03
end Go.Proofs.YtcfbgelhggapjaaGreatDoor
/- A map with keys of two integers: 'm[k] = append(m[k], x)': the entry first, the store into it last. -/
namespace Go.Proofs.YtcfbgelhggapjaaGreatDoor
open Go.RowKit
section
variable {P : Program} {w : World} {b : Nat} {L : List (I2 × Value)}
theorem IM.run_entry (h : IM w b L) {t kt e : TypeId} {z : Value} (ht : P.underlying t = some (.map kt e)) (hkt : KeyP P kt) (hz : ∀ w, (zeroValue e).run P w = .ok z w) (k : I2) :
    ∃ (st : Nat) (w' : World), (Instr.mapEntry t (.map (some b)) (kK k)).run P w = .ok (.tuple #[(L.lookup k).getD z, .int .i64 (st : Int)]) w' ∧ w.grownBy w' (some b) ∧ w'.heap.size = w.heap.size ∧ b < w.heap.size ∧
      ∀ (w2 : World) (v : Value), w2.heap[b]? = w'.heap[b]? → ∃ w3, (Instr.entryStore t (.map (some b)) (.int .i64 (st : Int)) v).run P w2 = .ok () w3 ∧ IM w3 b (putK k v L) ∧ w2.grownBy w3 (some b) ∧ w3.heap.size = w2.heap.size := by
  obtain ⟨es, clock, hb, hkv, hnd, hbn, hbc⟩ := h
  have hlt := (Array.getElem?_eq_some_iff.1 hb).1
  have hs := lookup_isSome_iff k L
  have hck : (Instr.checkKey false 10000 kt (kK k)).run P w = .ok () w := hkt.chk false k w
  have hfk := findKey_kv (w := w) hkt hkv k
  have hset : ∀ (W : World) (o : Obj) (es : Array MapEntry) (clock : Nat), W.heap[b]? = some (.map es clock) → (setObj b o).run P W = .ok () (W.putObj b o) := fun W o es clock hW => MapKept.run_setObj_map o hW
  have hput : ∀ (W : World) (o : Obj), W.grownBy (W.putObj b o) (some b) := fun W o => ⟨rfl, rfl, rfl, by simp [World.putObj], fun j _ hj => World.putObj_heap_other (by rintro rfl; exact hj rfl)⟩
  simp only [Instr.mapEntry, Sem.run_bind, run_underlying ht, Result.andThen_ok, MapKept.run_getObj_map hb, hck]
  cases hl : L.lookup k with
  | none =>
    have hi : (L.map (·.1)).idxOf? k = none := by rw [hl] at hs; simpa using hs.symm
    have hm : k ∉ L.map (·.1) := List.idxOf?_eq_none_iff.1 hi
    rw [hi] at hfk
    simp only [Option.bind_none] at hfk
    simp only [hfk, Result.andThen_ok, Sem.run_bind, hz, hset w _ es clock hb, Option.getD_none]
    refine ⟨clock, _, rfl, hput _ _, by simp [World.putObj], hlt, fun w2 v h2 => ?_⟩
    rw [World.putObj_heap_same hlt] at h2
    have hlt2 := (Array.getElem?_eq_some_iff.1 h2).1
    have hnd2 : ((es.push ⟨kK k, z, clock⟩).toList.map (·.born)).Nodup := by
      rw [Array.toList_push, List.map_append, List.nodup_append]
      refine ⟨hbn, by simp, fun a ha c hc e => ?_⟩
      simp only [List.map_cons, List.map_nil, List.mem_singleton] at hc
      obtain ⟨x, hx, rfl⟩ := List.mem_map.1 ha
      have := hbc x hx
      omega
    have hidx : (es.push ⟨kK k, z, clock⟩).findIdx? (fun e => ((e.born : Nat) : Int) == ((clock : Nat) : Int)) = some es.size := by
      rw [Go.WideElems.findIdx_arr]
      exact Go.WideElems.findIdx_born (l := (es.push ⟨kK k, z, clock⟩).toList) (j := es.size) (e0 := ⟨kK k, z, clock⟩) hnd2 (by simp)
    have hmod : (es.push ⟨kK k, z, clock⟩).modify es.size (fun e => { e with val := v }) = es.push ⟨kK k, v, clock⟩ := by
      apply Array.ext'
      rw [Array.toList_modify, Array.toList_push, Array.toList_push, ← Array.length_toList, Go.WideElems.modify_last]
    refine ⟨w2.putObj b (.map (es.push ⟨kK k, v, clock⟩) (clock + 1)), ?_, ⟨_, _, World.putObj_heap_same hlt2, ?_, nodup_putK k v L hnd, ?_, ?_⟩, hput _ _, by simp [World.putObj]⟩
    · simp [Instr.entryStore, MapKept.run_getObj_map h2, asInt, asIntOf, hidx, hmod, hset w2 _ _ _ h2, Result.andThen]
    · rw [putK_new k v L hm]
      simp [hkv, kvOf, kvIn]
    · rw [Array.toList_push, List.map_append, List.nodup_append]
      refine ⟨hbn, by simp, fun a ha c hc e => ?_⟩
      simp only [List.map_cons, List.map_nil, List.mem_singleton] at hc
      obtain ⟨x, hx, rfl⟩ := List.mem_map.1 ha
      have := hbc x hx
      omega
    · intro x hx
      rw [Array.toList_push, List.mem_append] at hx
      rcases hx with hx | hx
      · have := hbc x hx; omega
      · simp at hx; subst hx; simp
  | some u =>
    have hi : ((L.map (·.1)).idxOf? k).isSome = true := by rw [← hs, hl]; rfl
    obtain ⟨j, hj⟩ := Option.isSome_iff_exists.1 hi
    rw [hj, hl] at hfk
    simp only [Option.bind_some, Option.map_some, Nat.zero_add] at hfk
    have hjl : j < L.length := by
      have := List.idxOf?_eq_some_iff.1 hj
      obtain ⟨h1, _⟩ := this
      simpa using h1
    have hlen : es.toList.length = L.length := by simpa using congrArg List.length hkv
    have hjs : j < es.size := by rw [← Array.length_toList]; omega
    have hkey : (es[j]?).map (·.key) = some (kK k) := by
      have h1 : (es.toList.map kvOf)[j]? = (L.map kvIn)[j]? := by rw [hkv]
      obtain ⟨h2, h3, _⟩ := List.idxOf?_eq_some_iff.1 hj
      have h4 : j < es.toList.length := by omega
      rw [List.getElem?_map, List.getElem?_map, List.getElem?_eq_getElem h4, List.getElem?_eq_getElem hjl] at h1
      simp only [Option.map_some, Option.some.injEq, kvOf, kvIn, Prod.mk.injEq] at h1
      have h5 : (es.toList[j]).key = kK k := by
        rw [h1.1]
        simp only [List.getElem_map] at h3
        rw [h3]
      rw [Array.getElem?_eq_getElem hjs]
      simpa using h5
    have hgj : es[j]? = some es[j] := Array.getElem?_eq_getElem hjs
    have hkj : es[j].key = kK k := by
      rw [hgj] at hkey
      simpa using hkey
    have hst2 : (Instr.keyThatStays es[j].key (kK k)).run P w = .ok (kK k) w := by
      rw [hkj]
      simp [Instr.keyThatStays, Instr.sameBits, kK]
    have hsame : es.modify j (fun e => { e with key := kK k }) = es := by
      apply Array.ext'
      rw [Array.toList_modify]
      apply List.ext_getElem?
      intro i
      rw [List.getElem?_modify]
      by_cases hij : j = i
      · subst hij
        have : es.toList[j]? = some es[j] := by simp [hgj]
        rw [this]
        simp only [if_true, Option.map_eq_map, Option.map_some, Option.some.injEq]
        rw [← hkj]
      · cases es.toList[i]? <;> simp [hij]
    simp only [hfk, Result.andThen_ok, Sem.run_bind, hgj, Option.map_some, Option.getD_some, hst2, hset w _ es clock hb, hsame]
    refine ⟨es[j].born, _, rfl, hput _ _, by simp [World.putObj], hlt, fun w2 v h2 => ?_⟩
    rw [World.putObj_heap_same hlt] at h2
    have hlt2 := (Array.getElem?_eq_some_iff.1 h2).1
    have hidx : es.findIdx? (fun e => ((e.born : Nat) : Int) == ((es[j].born : Nat) : Int)) = some j := by
      rw [Go.WideElems.findIdx_arr]
      exact Go.WideElems.findIdx_born (l := es.toList) (j := j) (e0 := es[j]) hbn (by simp [hgj])
    have hmod : es.modify j (fun e => { e with val := v }) = es.modify j (fun e => { e with key := kK k, val := v }) := by
      apply Array.ext'
      rw [Array.toList_modify, Array.toList_modify]
      apply List.ext_getElem?
      intro i
      rw [List.getElem?_modify, List.getElem?_modify]
      by_cases hij : j = i
      · subst hij
        have : es.toList[j]? = some es[j] := by simp [hgj]
        rw [this]
        simp only [if_true, Option.map_eq_map, Option.map_some, Option.some.injEq]
        rw [← hkj]
      · cases es.toList[i]? <;> simp [hij]
    refine ⟨w2.putObj b (.map (es.modify j (fun e => { e with key := kK k, val := v })) clock), ?_, ⟨_, _, World.putObj_heap_same hlt2, ?_, nodup_putK k v L hnd, ?_, ?_⟩, hput _ _, by simp [World.putObj]⟩
    · simp [Instr.entryStore, MapKept.run_getObj_map h2, asInt, asIntOf, hidx, hmod, hset w2 _ _ _ h2, Result.andThen]
    · rw [Array.toList_modify]
      exact putK_kv_old k v [] es.toList L j hkv hj
    · rw [Array.toList_modify, born_modify (fun e => { e with key := kK k, val := v }) (fun _ => rfl)]
      exact hbn
    · intro x hx
      rw [Array.toList_modify] at hx
      have h1 : x.born ∈ (es.toList.modify j fun e => { e with key := kK k, val := v }).map (·.born) := List.mem_map_of_mem hx
      rw [born_modify (fun e => { e with key := kK k, val := v }) (fun _ => rfl)] at h1
      obtain ⟨y, hy, hyx⟩ := List.mem_map.1 h1
      have := hbc y hy
      omega
end
section
variable {P : Program} {w : World} {ops : Array Oper} {rest : List Oper} {o : Oper} {a : Act} {Q : Exit → Act → World → Prop} {b : Nat} {L : List (I2 × Value)}
theorem wpList_mapEntry_im (hg : o.guard = none) (m x : Operand) (t : TypeId) (hop : o.op = Op.mapEntry t m x)
    (kt e : TypeId) (z : Value) (ht : P.underlying t = some (.map kt e)) (hkt : KeyP P kt) (hz : ∀ w, (zeroValue e).run P w = .ok z w)
    (hm : a.eval m = .map (some b)) (h : IM w b L) (k : I2) (hx : a.eval x = kK k) (v : Value) (hv : (L.lookup k).getD z = v)
    (hK : ∀ (st : Nat) (w' : World), w.grownBy w' (some b) → w'.heap.size = w.heap.size → b < w.heap.size →
      (∀ (w2 : World) (v : Value), w2.heap[b]? = w'.heap[b]? → ∃ w3, (Instr.entryStore t (.map (some b)) (.int .i64 (st : Int)) v).run P w2 = .ok () w3 ∧ IM w3 b (putK k v L) ∧ w2.grownBy w3 (some b) ∧ w3.heap.size = w2.heap.size) →
      wpList P ops Q rest (a.put o.dst (.tuple #[v, .int .i64 (st : Int)])) w') : wpList P ops Q (o :: rest) a w := by
  refine wpList_plain hg fun K' hK' => ?_
  obtain ⟨st, w', hrun, r1, r2, r3, r4⟩ := h.run_entry ht hkt hz k
  rw [hv] at hrun
  unfold Oper.wp
  simp [execOp, hop, hm, hx, hrun, Result.andThen]
  exact hK' _ _ (hK st w' r1 r2 r3 r4)
theorem wpList_entryStore_im (hg : o.guard = none) (m s x : Operand) (t : TypeId) (hop : o.op = Op.entryStore t m s x) (st : Nat) (v : Value)
    (hm : a.eval m = .map (some b)) (hs : a.eval s = .int .i64 (st : Int)) (hx : a.eval x = v)
    (w3 : World) (hrun : (Instr.entryStore t (.map (some b)) (.int .i64 (st : Int)) v).run P w = .ok () w3)
    (hK : wpList P ops Q rest (a.put o.dst undef) w3) : wpList P ops Q (o :: rest) a w := by
  refine wpList_plain hg fun K' hK' => ?_
  unfold Oper.wp
  simp [execOp, hop, hm, hs, hx, hrun, Result.andThen]
  exact hK' _ _ hK
end
end Go.Proofs.YtcfbgelhggapjaaGreatDoor
