/- The walk of StampMatchesReference, over the contracts of sane and of Sorted. -/
import Derived.Test.YtenhghkiapkejaaR1
import Derived.Test.YtenhghkiapkejaaR2
import Derived.Test.YtenhghkiapkejaaW23
import Derived.Test.YtenhghkiapkejaaW22
import Derived.Deep.DeepCutAuto
import Derived.Deep.RegionHeld3
namespace Go.Proofs.Ytenhghkiapkejaa
open Go.RowKit
theorem blk_new1 (w : World) (o : Obj) (t : TypeId) (cs : List Value) : Blk ((w.alloc o).alloc (.cells cs.toArray t)) (w.heap.size + 1) t cs := by
  have h := Blk.new (w.alloc o) t cs
  have e : (w.alloc o).heap.size = w.heap.size + 1 := by simp
  rw [e] at h
  exact h
def H13o : Prop := ∀ (A : Option Addr) (l : List I3) (c : Nat) (w : World) (_ : l.length ≤ c) (_ : c ≤ 9223372036854775807) (_ : l.length ≤ 100) (_ : SlR w w.heap.size 3 A l.length (l.flatMap c3)),
    Calls Try.prog 13 #[.slice A l.length c] w fun e w' => ∃ v, e = .returned v ∧ w'.ownsRow w.heap.size 24 3 v l.length ((sortS l).flatMap c3) ∧ Below w.heap.size w w'
theorem f12n {l m : List I3} {n k : Nat} (hl : l.length = n) (hm : m.length = k) (A B : Option Addr) (c d : Nat) (w : World) (hn : n ≤ c) (hc : c ≤ 9223372036854775807) (hmd : k ≤ d)
    (hr : SlR w w.heap.size 3 A n (l.flatMap c3)) (hs : SlR w w.heap.size 3 B k (m.flatMap c3)) :
    Calls Try.prog 12 #[.slice A n c, .slice B k d] w fun e w' => e = .returned (.bool (decide (l = m))) ∧ Below w.heap.size w w' := by
  subst hl; subst hm; exact f12 A B l m c d w hn hc hmd hr hs
theorem neq24v (s : I3) (w : World) : (binOp .neq 24 (.agg #[.int .i64 s.1, .int .i64 s.2.1, .int .i64 s.2.2]) (.agg #[.int .i64 s.1, .int .i64 s.2.1, .int .i64 s.2.2])).run Try.prog w = .ok (.bool false) w := by
  rw [neq24]; simp
theorem own_blk {W : World} {b g k : Nat} {t : TypeId} (h : Blk W g t []) (hb : b ≤ g) : W.ownsRow b t k (.slice (some ⟨g, 0, none⟩) 0 0) 0 [] :=
  ⟨by simp, .inr ⟨g, 0, #[], rfl, hb, h, Nat.le_refl _, Nat.zero_le _, by simp, by simp⟩⟩
theorem slr_blk {W : World} {g : Nat} {t : TypeId} {cs : List Value} (h : Blk W g t cs) : SlR W (g + 1) cs.length (some ⟨g, 0, none⟩) 1 cs :=
  ⟨by simp, fun _ => ⟨g, 0, rfl, Nat.lt_succ_self g, fun j u hu => by rw [h.cell]; simpa using hu⟩⟩
theorem own_ge {w W : World} {t : TypeId} {k n : Nat} {v : Value} {xs : List Value} (h : W.ownsRow w.heap.size t k v n xs) : ∀ j, v.ownBlock = some j → w.heap.size ≤ j := fun j e => (h.lt j e).1
set_option maxRecDepth 100000 in
set_option maxHeartbeats 1000000 in
theorem f3 (h10 : H10) (h13 : H13o) (A : Option Addr) (x : List I3) (c : Nat) (odd : I3) (p n u : Int) (w : World) (hn : x.length ≤ c) (hc : c ≤ 9223372036854775807) (hw : ∀ s ∈ x, wf64 s.1 ∧ wf64 s.2.1 ∧ wf64 s.2.2) (hp : wf64 p) (hnn : wf64 n) (hu : wf64 u)
    (hr : SlR w w.heap.size 3 A x.length (x.flatMap c3)) :
    Calls Try.prog 3 #[.slice A x.length c, .agg #[.int .i64 odd.1, .int .i64 odd.2.1, .int .i64 odd.2.2], .int .i64 p, .int .i64 n, .int .i64 u] w fun e w' => e = .returned (.bool true) ∧ Below w.heap.size w w' := by
  obtain ⟨hp1, hp2⟩ := hp
  obtain ⟨hn1, hn2⟩ := hnn
  obtain ⟨hu1, hu2⟩ := hu
  go_enter Try.func3, Try.ntmps3
  go_wp2_with fail
  have hq := Blk.new w 24 [.int .i64 odd.1, .int .i64 odd.2.1, .int .i64 odd.2.2]
  have hb0 := balloc (Below.refl w.heap.size w) (.cells #[.int .i64 odd.1, .int .i64 odd.2.1, .int .i64 odd.2.2] 24)
  generalize (w.alloc (.cells #[.int .i64 odd.1, .int .i64 odd.2.1, .int .i64 odd.2.2] 24)) = w0 at *
  refine (h10 _).mono ?_
  rintro e w1 ⟨rfl, hb1⟩
  have hq := hq.below hb1 hq.lt
  have hb1 := bthen hb0 hb1
  go_wp2_with fail
  refine (f11 A x c _ hn hc hw (hr.to hb1)).mono ?_
  rintro e w2 ⟨v, rfl, hown, hb2⟩
  obtain ⟨A', cv, rfl, hcv1, hcv2, hL⟩ := SlR.of_own hown
  have hq := hq.below hb2 hq.lt
  have hb12 := bthen hb1 hb2
  have hle : (stamps x).length ≤ 12 := by unfold stamps; rw [List.length_map, List.length_take]; omega
  clear hown hr hw hb1 hb2 hn hb0
  generalize stamps x = l at *
  go_upto_region 4 with (fail)
  obtain ⟨i0, hi, hz0, hz1, hz2⟩ := info_parts Try.info24
  have hlI : (l.length : Int) ≤ 12 := by omega
  go_cut [12] (fun v wx => wx.ownsRow w2.heap.size 24 3 v (0 + l.length + 1) (([] ++ l.flatMap c3) ++ c3 odd) ∧ Below w2.heap.size w2 wx)
  case first =>
    have HS := hide (fun (W : World) (h : Below w2.heap.size w2 W) => (show W.cell? ⟨w.heap.size, 0, none⟩ = some (.int .i64 odd.1) ∧ W.cell? ⟨w.heap.size, 1, none⟩ = some (.int .i64 odd.2.1) ∧ W.cell? ⟨w.heap.size, 2, none⟩ = some (.int .i64 odd.2.2) ∧ Below w2.heap.size w2 W from ⟨(hq.below h hq.lt).all3.1, (hq.below h hq.lt).all3.2.1, (hq.below h hq.lt).all3.2.2.1, h⟩))
    go_region_held3 (fun W => W.cell? ⟨w.heap.size, 0, none⟩ = some (.int .i64 odd.1) ∧ W.cell? ⟨w.heap.size, 1, none⟩ = some (.int .i64 odd.2.1) ∧ W.cell? ⟨w.heap.size, 2, none⟩ = some (.int .i64 odd.2.2) ∧ Below w2.heap.size w2 W)
      (first | assumption | exact HS.out _ (bdrew (Below.refl _ _)) | exact HS.out _ (by assumption) | (go_split_ands; first | exact HS.out _ (by assumption) | exact HS.out _ (balloc (by assumption) _) | exact HS.out _ (bdrew (balloc (by assumption) _)) | exact HS.out _ (bdrew (balloc (Below.refl _ _) _)) | exact HS.out _ (bdrew (balloc (balloc (Below.refl _ _) _) _))))
      (first | (go_split_ands; refine step_append_sl (w0 := w2) (B := w2.heap.size) (size := 3) (by rfl) _ _ 26 (by rfl) w2.heap.size 24 i0 (.agg #[.int .i64 0, .int .i64 0, .int .i64 0]) 24 Try.underlying26 hi hz0 hz1 hz2 (by rfl) (by decide) _ 0 [] (by rfl) (own_blk (by first | exact (Blk.new w2 24 []).drew | exact ((Blk.new w2 24 []).alloc _).drew | exact (blk_new1 w2 _ 24 []).drew) (by first | exact Nat.le_refl _ | exact Nat.le_succ _)) l.length cv (l.flatMap c3) (by rfl) hL (by assumption) (by exact fun u hu => flat_one' _ u hu) (by unfold maxLen; omega) (by omega) (by exact Below.size (by assumption)) ?_; intro v4 w4 hown4 hgrow hor; have hb4 : Below w2.heap.size w2 w4 := bgrown (by assumption) hgrow (by intro j e; cases e; first | exact Nat.le_refl _ | exact Nat.le_succ _); have hzz := hide (fun g cs (h : Blk _ g 24 cs) (hne : _ ≠ some g) => h.grown hgrow hne)) |
        (go_split_ands; refine step_append_sl (size := 3) (by rfl) _ _ 26 (by rfl) w2.heap.size 24 i0 (.agg #[.int .i64 0, .int .i64 0, .int .i64 0]) 24 Try.underlying26 hi hz0 hz1 hz2 (by rfl) (by decide) _ _ _ (by rfl) (by first | exact hown4 | exact hown4.alloc _ | exact (hown4.alloc _).drew) 1 1 (c3 odd) (by rfl) (slr_blk (cs := c3 odd) (by first | exact Blk.new w4 24 (c3 odd) | exact (Blk.new w4 24 (c3 odd)).drew | exact hzz.out _ _ ((blk_new1 w2 (.cells #[] 24) 24 (c3 odd)).drew) (by simp [Value.ownBlock]) | exact hzz.out _ _ (((Blk.new w2 24 (c3 odd)).alloc (.cells #[] 24)).drew) (by simp [Value.ownBlock]))) (Below.refl _ _) (by simp [Value.oneCell', c3]) (by unfold maxLen; omega) (by omega) (by exact Below.size (by assumption)) ?_; intro v5 w5 hown5 hgrow5 hor5; have hb5' : Below w2.heap.size w2 w5 := bgrown (by assumption) hgrow5 (own_ge hown4)))
    all_goals
      go_wp2_with fail
      go_meet
      exact ⟨hown5, by assumption⟩
  case rest =>
    obtain ⟨w3, rfl⟩ : ∃ W : World, W = wc := ⟨_, rfl⟩
    obtain ⟨hown, hb3⟩ := hcut
    have e1 : (([] : List Value) ++ l.flatMap c3) ++ c3 odd = (l ++ [odd]).flatMap c3 := by simp
    have e2 : 0 + l.length + 1 = l.length + 1 := by omega
    rw [e1, e2] at hown
    obtain ⟨A2, c2', rfl, hc21, hc22, hM⟩ := SlR.of_own hown
    have hq3 := hq.below hb3 hq.lt
    have hL3 := hL.to hb3
    have hb13 := bthen hb12 hb3
    have hl2 : (l ++ [odd]).length = l.length + 1 := by simp
    have hl3 := hide hl2
    clear hl2
    clear e1 e2 hown hq hL hb12 hb3
    go_wp2_with fail
    have hz := Blk.new w3 26 [.slice A' l.length cv, .slice A2 (l.length + 1) c2']
    have hq4 := hq3.alloc (.cells #[.slice A' l.length cv, .slice A2 (l.length + 1) c2'] 26)
    have hb4 := balloc (Below.refl w3.heap.size w3) (.cells #[.slice A' l.length cv, .slice A2 (l.length + 1) c2'] 26)
    generalize (w3.alloc (.cells #[.slice A' l.length cv, .slice A2 (l.length + 1) c2'] 26)) = w4 at *
    have hL4 := hL3.to hb4
    have hM4 := hM.to hb4
    have hb14 := bthen hb13 hb4
    clear hL3 hM hb13 hb4 hq3
    have key : ∀ j, j < 2 → ∃ (Az : Option Addr) (cz : Nat) (zs : List I3), (∀ W, Below w4.heap.size w4 W → W.cell? ⟨w3.heap.size, j, none⟩ = some (.slice Az zs.length cz)) ∧ zs.length ≤ cz ∧ cz ≤ maxLen ∧ zs.length ≤ 13 ∧ SlR w4 w4.heap.size 3 Az zs.length (zs.flatMap c3) := by
      intro j hj
      have h2 : j = 0 ∨ j = 1 := by omega
      rcases h2 with rfl | rfl
      · exact ⟨A', cv, l, fun W h => by rw [(hz.below h hz.lt).cell]; rfl, hcv1, hcv2, by omega, hL4⟩
      · exact ⟨A2, c2', l ++ [odd], fun W h => by rw [(hz.below h hz.lt).cell, hl3.out]; rfl, by rw [hl3.out]; exact hc21, hc22, by rw [hl3.out]; omega, by rw [hl3.out]; exact hM4⟩
    have HK := hide key
    have HZ := hide hz
    clear key hL4 hM4 hz
    go_loopw [36] (fun i wr => ∃ j : Nat, j ≤ 2 ∧ i = .int .i64 j ∧ Below w4.heap.size w4 wr) (fun i _ => 2 - (intOf i).toNat)
    case atStart => exact ⟨0, by omega, rfl, Below.refl _ _⟩
    case round =>
      obtain ⟨j, hj, rfl, hbr⟩ := hrel
      by_cases hlt : j < 2
      · obtain ⟨Az, cz, zs, hcell, hz1', hz2', hz3', hZ⟩ := HK.out j hlt
        have hji : (j : Int) < 2 := by omega
        have hj0 : (0 : Int) ≤ (j : Int) := by omega
        have hc0 := hcell _ hbr
        have hZr := hZ.to hbr
        have hcz : cz ≤ 9223372036854775807 := by simpa [maxLen] using hz2'
        have HH := hide hcell
        clear hcell
        go_wp2_with fail
        refine (h13 Az zs cz _ hz1' hcz (by omega) hZr).mono ?_
        rintro e w5 ⟨va, rfl, howna, hb5⟩
        obtain ⟨Aa, ca, rfl, hca1, hca2, hA⟩ := SlR.of_own howna
        have hZ5 := hZr.to hb5
        have hb45 := bthen hbr hb5
        clear howna hZr hbr hb5 hc0
        go_wp2_with fail
        refine (f14 Az zs cz _ (by omega) hZ5).mono ?_
        rintro e w6 ⟨vb, rfl, hownb, hb6⟩
        obtain ⟨Ab, cb, rfl, hcb1, hcb2, hB⟩ := SlR.of_own hownb
        have hA6 := hA.to hb6
        have hZ6 := hZ5.to hb6
        have hb46 := bthen hb45 hb6
        have hsl := hide (sortS_len zs)
        clear hownb hA hZ5 hb45 hb6
        go_wp2_with fail
        refine (f12n (l := sortS zs) (m := sortS zs) hsl.out hsl.out _ _ _ _ _ hca1 (by simpa [maxLen] using hca2) hcb1 hA6 hB).mono ?_
        rintro e w7 ⟨rfl, hb7⟩
        have hds : decide (sortS zs = sortS zs) = true := by simp
        rw [hds]
        clear hds
        have hZ7 := hZ6.to hb7
        have hb47 := bthen hb46 hb7
        clear hA6 hB hZ6 hb46 hb7
        have hpa := pk_range p 40 (by omega)
        have hpb := pk_range n 999 (by omega)
        have hpc := pk_range u 1500 (by omega)
        obtain ⟨hpa1, hpa2⟩ := hpa
        obtain ⟨hpb1, hpb2⟩ := hpb
        obtain ⟨hpc1, hpc2⟩ := hpc
        go_wp2_with (first | (go_at_call 15; refine (f15 _ _ _ (by omega) (by omega) (by omega) (by omega)).mono ?_; rintro e w' ⟨rfl, rfl⟩))
        have hz8 := Blk.new w7 31 [.int .i64 p, .int .i64 n, .int .i64 u, .int .i64 (pk p 40), .int .i64 (1 + pk n 999), .int .i64 (pk u 1500)]
        have hb8 := balloc (Below.refl w7.heap.size w7) (.cells #[.int .i64 p, .int .i64 n, .int .i64 u, .int .i64 (pk p 40), .int .i64 (1 + pk n 999), .int .i64 (pk u 1500)] 31)
        generalize (w7.alloc (.cells #[.int .i64 p, .int .i64 n, .int .i64 u, .int .i64 (pk p 40), .int .i64 (1 + pk n 999), .int .i64 (pk u 1500)] 31)) = w8 at *
        have hZ8 := hZ7.to hb8
        have hb48 := bthen hb47 hb8
        have kk : ∀ q, q < 2 → ∃ a b g : Int, wf64 g ∧ ∀ W, Below w8.heap.size w8 W → W.cell? ⟨w7.heap.size, q * 3, none⟩ = some (.int .i64 a) ∧ W.cell? ⟨w7.heap.size, q * 3 + 1, none⟩ = some (.int .i64 b) ∧ W.cell? ⟨w7.heap.size, q * 3 + 2, none⟩ = some (.int .i64 g) := by
          intro q hq
          have h2 : q = 0 ∨ q = 1 := by omega
          rcases h2 with rfl | rfl
          · exact ⟨p, n, u, ⟨hu1, hu2⟩, fun W h => ⟨by rw [(hz8.below h hz8.lt).cell]; rfl, by rw [(hz8.below h hz8.lt).cell]; rfl, by rw [(hz8.below h hz8.lt).cell]; rfl⟩⟩
          · exact ⟨_, _, pk u 1500, ⟨by omega, by omega⟩, fun W h => ⟨by rw [(hz8.below h hz8.lt).cell]; rfl, by rw [(hz8.below h hz8.lt).cell]; rfl, by rw [(hz8.below h hz8.lt).cell]; rfl⟩⟩
        have HQ := hide kk
        clear kk hz8 hb8 hZ7 hb47
        go_loopw [60] (fun i wr => ∃ q : Nat, q ≤ 2 ∧ i = .int .i64 q ∧ Below w8.heap.size w8 wr) (fun i _ => 2 - (intOf i).toNat)
        case atStart => exact ⟨0, by omega, rfl, Below.refl _ _⟩
        case round =>
          obtain ⟨q, hq, rfl, hbr⟩ := hrel
          by_cases hlt2 : q < 2
          · obtain ⟨a, b, g, hg, hcl⟩ := HQ.out q hlt2
            obtain ⟨y0, y1, y2⟩ := hcl _ hbr
            have hqi : (q : Int) < 2 := by omega
            have hq0 : (0 : Int) ≤ (q : Int) := by omega
            obtain ⟨S, E, hSE⟩ : ∃ (S : I3) (E : Int), nextV (nextS zs a b g) = .tuple #[.agg #[.int .i64 S.1, .int .i64 S.2.1, .int .i64 S.2.2], .int .i64 E] := by
              cases nextS zs a b g with
              | none => exact ⟨(0, 0, 0), 60, rfl⟩
              | some s => exact ⟨s, 0, rfl⟩
            have HE := hide hSE
            have HG := hide hg
            clear hSE hcl hg
            go_wp2_with fail
            have hx := Blk.new wr 31 [.int .i64 a, .int .i64 b, .int .i64 g]
            have hbx := balloc (Below.refl wr.heap.size wr) (.cells #[.int .i64 a, .int .i64 b, .int .i64 g] 31)
            refine (f16 Az zs cz a b g _ hz1' hcz (hZ8.to (bthen hbr hbx)) HG.out).mono ?_
            rintro e w9 ⟨rfl, hb9⟩
            rw [HE.out]
            have hx9 := hx.below hb9 hx.lt
            have hb89 := bthen (bthen hbr hbx) hb9
            have hxl := hx9.lt
            obtain ⟨x0, x1, x2, _⟩ := hx9.all3
            clear hx hbx hb9 y0 y1 y2
            go_wp2_with fail
            have ho := Blk.new w9 24 [.int .i64 S.1, .int .i64 S.2.1, .int .i64 S.2.2]
            have hbo := balloc (Below.refl w9.heap.size w9) (.cells #[.int .i64 S.1, .int .i64 S.2.1, .int .i64 S.2.2] 24)
            refine (f17 Az zs cz a b g _ hz1' hcz (hZ8.to (bthen hb89 hbo)) HG.out).mono ?_
            rintro e w10 ⟨rfl, hb10⟩
            rw [HE.out]
            have ho10 := ho.below hb10 ho.lt
            have hb810 := bthen (bthen hb89 hbo) hb10
            have hol := ho10.lt
            obtain ⟨o0, o1, o2, _⟩ := ho10.all3
            have hneq := neq24v S
            clear ho hbo hb10 hx9 x0 x1 x2 hb89 ho10
            go_wp2_with fail
            go_roundw
            case rel => exact ⟨q + 1, by omega, by go_num, balloc hb810 _⟩
            case measure => simp [intOf]; omega
          · go_wp2_with fail
            have hb4r := bthen hb48 hbr
            have hq4r := hq4.below hb4r hq4.lt
            have r0 : ∀ x : BW w4, x.val.cell? ⟨w.heap.size, 0, none⟩ = some (.int .i64 odd.1) := fun x => (hq4.below x.ok hq4.lt).all3.1
            have r1 : ∀ x : BW w4, x.val.cell? ⟨w.heap.size, 1, none⟩ = some (.int .i64 odd.2.1) := fun x => (hq4.below x.ok hq4.lt).all3.2.1
            have r2 : ∀ x : BW w4, x.val.cell? ⟨w.heap.size, 2, none⟩ = some (.int .i64 odd.2.2) := fun x => (hq4.below x.ok hq4.lt).all3.2.2.1
            go_loopw [21] (fun i wr => ∃ q : Nat, q ≤ zs.length ∧ i = .int .i64 q ∧ Below w4.heap.size w4 wr) (fun i _ => zs.length - (intOf i).toNat)
            case atStart => exact ⟨0, by omega, rfl, hb4r⟩
            case round =>
              clear hbr hb4r hq4r
              obtain ⟨q', hq', rfl, hbr⟩ := hrel
              by_cases hlt3 : q' < zs.length
              · obtain ⟨bz, oz, rfl, _, _⟩ := hZ.2 (by omega)
                obtain ⟨s0, s1, s2⟩ := hZ.bw3 hlt3
                have hqi : (q' : Int) < (zs.length : Int) := by omega
                have hq0 : (0 : Int) ≤ (q' : Int) := by omega
                go_wp2_with fail
                refine wp_region_bw w4 (by assumption) (by kernel_rfl) (by kernel_rfl) ?_
                repeat (go_big_quiet_step ((first | (go_at_call 18; exact bw_call (f18 _ _ _)) | (go_at_call 19; exact bw_call (f19 _ _ _)))))
                refine wpQuiet_nil ?_
                intro w11 hbw11
                go_wp2_with fail
                go_roundw
                case rel => exact ⟨q' + 1, by omega, by go_num, by assumption⟩
                case measure => simp [intOf]; omega
              · go_wp2_with fail
                go_roundw
                case rel => exact ⟨j + 1, by omega, by go_num, hbr⟩
                case measure => simp [intOf]; omega
      · have r0 : ∀ x : BW w4, x.val.cell? ⟨w.heap.size, 0, none⟩ = some (.int .i64 odd.1) := fun x => (hq4.below x.ok hq4.lt).all3.1
        have r1 : ∀ x : BW w4, x.val.cell? ⟨w.heap.size, 1, none⟩ = some (.int .i64 odd.2.1) := fun x => (hq4.below x.ok hq4.lt).all3.2.1
        have r2 : ∀ x : BW w4, x.val.cell? ⟨w.heap.size, 2, none⟩ = some (.int .i64 odd.2.2) := fun x => (hq4.below x.ok hq4.lt).all3.2.2.1
        go_wp2_with fail
        refine wp_region_bw w4 (by assumption) (by kernel_rfl) (by kernel_rfl) ?_
        repeat (go_big_quiet_step ((first | (go_at_call 20; exact bw_call (f20 _ _)) | (go_at_call 21; exact bw_call (f21 _ _)))))
        refine wpQuiet_nil ?_
        intro w11 hbw11
        go_wp2_with fail
        go_ret
        exact ⟨rfl, bthen hb14 (by assumption)⟩
end Go.Proofs.Ytenhghkiapkejaa
