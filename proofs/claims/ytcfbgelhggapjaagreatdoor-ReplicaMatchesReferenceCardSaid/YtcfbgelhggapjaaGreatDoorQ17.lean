/- Replica: the laws' helpers texts, few. -/
import Derived.Test.YtcfbgelhggapjaaGreatDoorQ16
import Derived.Test.YtcfbgelhggapjaaGreatDoorQ11
import Derived.Test.YtcfbgelhggapjaaGreatDoorQ3
import Derived.Test.YtcfbgelhggapjaaGreatDoorQ15
import Derived.Test.YtcfbgelhggapjaaGreatDoorQ13
import Derived.Test.YtcfbgelhggapjaaGreatDoorCards
import Derived.Test.YtcfbgelhggapjaaGreatDoorTie
import Derived.WalkKit
import Derived.Deep.DeepHandedRow
import Derived.Lib.LaidTab
import Derived.ProofKit
import Derived.Deep.Slices
import Derived.OpenShut
import Derived.ChangeArms
import Derived.Carry
namespace Go.Proofs.YtcfbgelhggapjaaGreatDoor
open Go.RowKit Go.Shelf
def txB (l : List Rc) (ws : List ByteArray) : Bool := decide (l.map (·.text) = ws)
set_option linter.unusedSimpArgs false in
set_option maxRecDepth 100000 in
set_option maxHeartbeats 8000000 in
theorem c_ltexts (A : Option Addr) (N c : Nat) (l : List Rc) (B : Option Addr) (M d : Nat) (ws : List ByteArray) (w : World) (hN : N ≤ 9223372036854775807) (hM : M ≤ 9223372036854775807) (hr : SlR w w.heap.size 7 A N (l.flatMap cR)) (hs : SlR w w.heap.size 1 B M (ws.map Value.string)) :
    Calls Tryz.prog 41 #[.slice A N c, .slice B M d] w fun e w' => e = .returned (.bool (txB l ws)) ∧ Below w.heap.size w w' := by
  have hwl : ws.length = M := by have := hs.1; simpa using this
  have HL := hide (And.intro hr.lenR hwl)
  have HR : Hid (∀ W, Below w.heap.size w W → SlR W W.heap.size 7 A N (l.flatMap cR) ∧ SlR W W.heap.size 1 B M (ws.map Value.string)) := hide (fun W h => ⟨hr.to' h, (hs.below h).more h.size⟩)
  clear hr hs hwl
  by_cases hNM : N = M
  · subst hNM
    go_enter Tryz.func41, Tryz.ntmps41
    go_wp2
    go_loopw [5] (fun i wr => ∃ j : Nat, j ≤ N ∧ i = .int .i64 j ∧ Hid ((l.take j).map (·.text) = ws.take j) ∧ Below w.heap.size w wr) (fun i _ => N - (intOf i).toNat)
    case atStart => exact ⟨0, Nat.zero_le _, rfl, hide rfl, Below.refl _ _⟩
    case round =>
      obtain ⟨j, hj, rfl, hok, hb⟩ := hrel
      obtain ⟨hsl, hsw⟩ := HR.out wr hb
      by_cases hlt : j < N
      · have hjl : j < l.length := by have := HL.out.1; omega
        have hjw : j < ws.length := by have := HL.out.2; omega
        have hji : (j : Int) < (N : Int) := by omega
        obtain ⟨b', off, rfl, hbb⟩ := hsl.some_of (by omega)
        obtain ⟨-, -, -, -, -, -, z6⟩ := hsl.bwR hjl
        obtain ⟨b2, off2, rfl, hbb2, hc2⟩ := hsw.2 (by omega)
        have hc2' := hc2 j (.string (ws[j]'hjw)) (by rw [List.getElem?_map, List.getElem?_eq_getElem hjw]; rfl)
        have y6 := fun x : BW wr => (x.ok.cell (p := ⟨b2, off2 + j, none⟩) hbb2).trans hc2'
        have HT := hide (And.intro (show (l.take (j + 1)).map (·.text) = (l.take j).map (·.text) ++ [(l[j]'hjl).text] by rw [List.take_succ_eq_append_getElem hjl, List.map_append]; rfl) (List.take_succ_eq_append_getElem hjw))
        have HNe := hide (show (l[j]'hjl).text ≠ ws[j]'hjw → txB l ws = false from fun h => by
          unfold txB
          refine decide_eq_false fun e => h ?_
          have := congrArg (fun m => m[j]?) e
          simp only [List.getElem?_map, List.getElem?_eq_getElem hjl, List.getElem?_eq_getElem hjw, Option.map_some, Option.some.injEq] at this
          exact this)
        have HB := hide hb
        have HOk := hide hok
        have heq : ((l[j]'hjl).text.toList == (ws[j]'hjw).toList) = decide ((l[j]'hjl).text = ws[j]'hjw) := by
          rw [Bool.eq_iff_iff]
          simp [text_iff]
        generalize ws[j]'hjw = u at *
        generalize l[j]'hjl = r at *
        clear hok hb hsl hsw hc2 hc2'
        generalize r.text = tx at *
        by_cases htu : tx = u
        · rw [decide_eq_true htu] at heq
          have HX := hide htu
          clear htu
          go_wp2_with fail
          refine wp_region_bw wr (Below.refl _ _) (by kernel_rfl) (by kernel_rfl) ?_
          repeat (go_big_quiet_step (fail))
          refine wpQuiet_nil ?_
          intro W4 hb4
          go_wp2_with fail
          have HOK1 := hide (show (l.take (j + 1)).map (·.text) = ws.take (j + 1) by rw [HT.out.1, HT.out.2, HOk.out.out, HX.out])
          have hw1 : wrap64 ((j : Int) + 1) = ((j + 1 : Nat) : Int) := (Go.IntWalk.wrap64_in _ (by omega)).trans rfl
          try rw [hw1]
          clear hw1
          refine ⟨⟨j + 1, hlt, rfl, HOK1, bthen HB.out hb4⟩, ?_⟩
          show N - ((j : Int) + 1).toNat < N - ((j : Nat) : Int).toNat
          omega
        · rw [decide_eq_false htu] at heq
          have HX := hide (HNe.out htu)
          clear htu
          go_wp2_with fail
          refine wp_region_bw wr (Below.refl _ _) (by kernel_rfl) (by kernel_rfl) ?_
          repeat (go_big_quiet_step (fail))
          refine wpQuiet_nil ?_
          intro W4 hb4
          go_wp2_with fail
          go_ret
          exact ⟨by rw [HX.out] <;> rfl, bthen HB.out hb4⟩
      · obtain rfl : j = N := by omega
        have HQ := hide (show txB l ws = true by
          unfold txB
          refine decide_eq_true ?_
          have := hok.out
          rwa [← HL.out.1, List.take_length, HL.out.1, ← HL.out.2, List.take_length] at this)
        clear hok hsl hsw
        go_wp2
        go_ret
        exact ⟨by rw [HQ.out] <;> rfl, hb⟩
  · have HQ := hide (show txB l ws = false by
      unfold txB
      refine decide_eq_false fun e => hNM ?_
      rw [← HL.out.1, ← HL.out.2, ← e, List.length_map])
    have hne : ¬ ((N : Int) = (M : Int)) := by omega
    go_enter Tryz.func41, Tryz.ntmps41
    go_wp2
    go_ret
    exact ⟨by rw [HQ.out] <;> rfl, Below.refl _ _⟩
/-- a record whose text is cut -/
def cut20 (r : Rc) : Rc := { r with text := r.text.extract 0 (min r.text.size 20) }
def fewL (l : List Rc) : List Rc := (l.take 6).map cut20
set_option linter.unusedSimpArgs false in
set_option maxRecDepth 100000 in
set_option maxHeartbeats 8000000 in
theorem c_lfew (p : Int) (A : Option Addr) (N c : Nat) (l : List Rc) (w : World) (hN : N ≤ 9223372036854775807) (hr : SlR w w.heap.size 7 A N (l.flatMap cR)) :
    Calls Tryz.prog 12 #[rpV p A N c] w fun e w' => (∃ A' c', e = .returned (rpV p A' (fewL l).length c') ∧ (fewL l).length ≤ c' ∧ c' ≤ 9223372036854775807 ∧ SlN w' w.heap.size 7 A' (fewL l).length ((fewL l).flatMap cR)) ∧ Below w.heap.size w w' := by
  have HL := hide hr.lenR
  have hb0 := balloc (balloc (balloc (Below.refl w.heap.size w) (.cells #[.int .i64 p, .slice A N c] 25)) (.cells #[.int .i64 0, .slice none 0 0] 25)) (.cells #[.int .i64 p, .slice none 0 0] 25)
  have gR := ((Blk.new w 25 [.int .i64 p, .slice A N c]).alloc (.cells #[.int .i64 0, .slice none 0 0] 25)).alloc (.cells #[.int .i64 p, .slice none 0 0] 25)
  have gZ : Blk (((w.alloc (.cells #[.int .i64 p, .slice A N c] 25)).alloc (.cells #[.int .i64 0, .slice none 0 0] 25)).alloc (.cells #[.int .i64 p, .slice none 0 0] 25)) (w.heap.size + 1) 25 [.int .i64 0, .slice none 0 0] := by
    have := Blk.new (w.alloc (.cells #[.int .i64 p, .slice A N c] 25)) 25 [.int .i64 0, .slice none 0 0]
    rw [show (w.alloc (.cells #[.int .i64 p, .slice A N c] 25)).heap.size = w.heap.size + 1 from by simp] at this
    exact this.alloc _
  have gO : Blk (((w.alloc (.cells #[.int .i64 p, .slice A N c] 25)).alloc (.cells #[.int .i64 0, .slice none 0 0] 25)).alloc (.cells #[.int .i64 p, .slice none 0 0] 25)) (w.heap.size + 1 + 1) 25 [.int .i64 p, .slice none 0 0] := by
    have := Blk.new ((w.alloc (.cells #[.int .i64 p, .slice A N c] 25)).alloc (.cells #[.int .i64 0, .slice none 0 0] 25)) 25 [.int .i64 p, .slice none 0 0]
    rw [show ((w.alloc (.cells #[.int .i64 p, .slice A N c] 25)).alloc (.cells #[.int .i64 0, .slice none 0 0] 25)).heap.size = w.heap.size + 1 + 1 from by simp] at this
    exact this
  obtain ⟨w0, hw0⟩ : ∃ w0, ((w.alloc (.cells #[.int .i64 p, .slice A N c] 25)).alloc (.cells #[.int .i64 0, .slice none 0 0] 25)).alloc (.cells #[.int .i64 p, .slice none 0 0] 25) = w0 := ⟨_, rfl⟩
  rw [hw0] at hb0 gR gZ gO
  have H0 := hide (And.intro gR (And.intro gZ (And.intro gO (And.intro hb0 hw0))))
  have HR : Hid (∀ W, Below w.heap.size w W → SlR W W.heap.size 7 A N (l.flatMap cR)) := hide (fun W h => hr.to' h)
  obtain ⟨j0, hj0, hz0, hz1, hz2⟩ := info_parts Tryz.infoRec
  clear gR gZ gO hb0 hw0 hr
  unfold rpV
  go_enter Tryz.func12, Tryz.ntmps12
  go_wp2_with fail
  rw [H0.out.2.2.2.2]
  go_loopw [4] (fun i wr => ∃ (k : Nat) (v : Value), k ≤ N ∧ k ≤ 6 ∧ i = .int .i64 k ∧ Blk wr w.heap.size 25 [.int .i64 p, .slice A N c] ∧ Blk wr (w.heap.size + 1) 25 [.int .i64 0, .slice none 0 0] ∧ Blk wr (w.heap.size + 1 + 1) 25 [.int .i64 p, v] ∧ wr.ownsRow (w.heap.size + 1 + 1 + 1) 49 7 v k (((l.take k).map cut20).flatMap cR) ∧ Below w.heap.size w wr) (fun i _ => 6 - (intOf i).toNat)
  case atStart => exact ⟨0, _, Nat.zero_le _, Nat.zero_le _, rfl, H0.out.1, H0.out.2.1, H0.out.2.2.1, (by exact World.ownsRow_nil _ _ _ _), H0.out.2.2.2.1⟩
  case round =>
    clear H0
    obtain ⟨k, v, hk, hk6, rfl, gR, gZ, gO, hown, hb⟩ := hrel
    obtain ⟨r0, r1⟩ := gR.two
    have hrl := gR.lt
    obtain ⟨Av, cv, rfl, hv1, hv2, _⟩ := SlR.of_own hown
    by_cases hlt : k < N
    · by_cases h6 : k < 6
      · have hkl : k < l.length := by have := HL.out; omega
        have hji : (k : Int) < (N : Int) := by omega
        have hj6 : (k : Int) < 6 := by omega
        have hsl := HR.out wr hb
        obtain ⟨b, off, rfl, hbb⟩ := hsl.some_of (by omega)
        obtain ⟨-, y0, y1, y2, y3, y4, y5, y6⟩ := hsl.cellsR (Below.refl _ _) hkl
        have HT := hide (show (l.take (k + 1)).map cut20 = (l.take k).map cut20 ++ [cut20 (l[k]'hkl)] by rw [List.take_succ_eq_append_getElem hkl, List.map_append]; rfl)
        generalize l[k]'hkl = r at *
        obtain ⟨rp, rn, rt, ro, rw', rk, rx⟩ := r
        dsimp only at y0 y1 y2 y3 y4 y5 y6
        rw [show cut20 ⟨rp, rn, rt, ro, rw', rk, rx⟩ = ⟨rp, rn, rt, ro, rw', rk, rx.extract 0 (min rx.size 20)⟩ from rfl] at HT
        have HB := hide (And.intro gR (And.intro gZ (And.intro gO (And.intro hown hb))))
        obtain ⟨o0, o1, o2, o3⟩ := gO.all2
        have hol := gO.lt
        clear gR gZ gO hown hb hsl
        go_upto_region 6 with (fail)
        have gX := Blk.new wr 49 [.int .i64 rp, .int .i64 rn, .int .i64 rt, .int .i64 ro, .int .i64 rw', .int .i64 rk, .string rx]
        have hbX := balloc (Below.refl wr.heap.size wr) (.cells #[.int .i64 rp, .int .i64 rn, .int .i64 rt, .int .i64 ro, .int .i64 rw', .int .i64 rk, .string rx] 49)
        have hXl := gX.lt
        generalize wr.alloc (.cells #[.int .i64 rp, .int .i64 rn, .int .i64 rt, .int .i64 ro, .int .i64 rw', .int .i64 rk, .string rx] 49) = wX at *
        obtain ⟨⟨x0, x1, x2, x3, x4, x5, x6⟩, f0, f1, f2, f3, f4, f5, f6⟩ := gX.all7
        clear y0 y1 y2 y3 y4 y5 y6
        have hmn : ((min (rx.size : Int) 20) : Int) = ((min rx.size 20 : Nat) : Int) := by omega
        have hmn2 : (min rx.size 20 : Nat) ≤ rx.size := by omega
        go_upto_region 7 with (fail)
        obtain ⟨tx, htx⟩ : ∃ tx, rx.extract 0 (min rx.size 20) = tx := ⟨_, rfl⟩
        rw [htx] at HT ⊢
        have gY : Blk (wX.setCell ⟨wr.heap.size, 6, none⟩ (.string tx)) wr.heap.size 49 [.int .i64 rp, .int .i64 rn, .int .i64 rt, .int .i64 ro, .int .i64 rw', .int .i64 rk, .string tx] := gX.set 6 (.string tx)
        have hbY : Below wr.heap.size wr (wX.setCell ⟨wr.heap.size, 6, none⟩ (.string tx)) := bset (p := ⟨wr.heap.size, 6, none⟩) hbX (Nat.le_refl _) _
        have hHt : True := trivial
        clear gX hbX x0 x1 x2 x3 x4 x5 x6 f0 f1 f2 f3 f4 f5 f6 hmn hmn2 o0 o1 o2 o3 hXl htx hHt r0 r1
        try simp only [htx]
        generalize wX.setCell ⟨wr.heap.size, 6, none⟩ (.string tx) = wY at *
        obtain ⟨⟨x0, x1, x2, x3, x4, x5, x6⟩, -⟩ := gY.all7
        have hYl := gY.lt
        have gOY := HB.out.2.2.1.below hbY HB.out.2.2.1.lt
        obtain ⟨o0, o1, o2, o3⟩ := gOY.all2
        have hol2 := gOY.lt
        have hownY := own_to HB.out.2.2.2.1 hbY
        have gA := (Blk.new wY 49 (cR ⟨rp, rn, rt, ro, rw', rk, tx⟩)).slr (k := 7) (n := 1) rfl
        have hown7 := hownY.alloc (.cells #[.int .i64 rp, .int .i64 rn, .int .i64 rt, .int .i64 ro, .int .i64 rw', .int .i64 rk, .string tx] 49)
        have hge := own_ge hownY
        have HY := hide (And.intro gOY (And.intro hbY hge))
        clear gY gOY hbY hownY hge
        generalize (l.take k).map cut20 = mo at *
        go_wp2_with (at_builtin; refine wpList_append_sl (size := 7) rfl _ _ 23 rfl (w.heap.size + 1 + 1 + 1) 49 j0 zV 64 Tryz.underlying23 hj0 hz0 hz1 hz2 rfl (by decide) (.slice Av k cv) k (mo.flatMap cR) rfl hown7 1 1 (cR ⟨rp, rn, rt, ro, rw', rk, tx⟩) rfl gA (Below.refl _ _) (fun u hu => oneR [⟨rp, rn, rt, ro, rw', rk, tx⟩] u (by simpa using hu)) (by unfold maxLen; omega) (by omega) (by simp; omega) ?_; intro v8 w8 hown8 hgrow8 hor8; obtain ⟨Aw, cw, rfl, _, _, _⟩ := SlR.of_own hown8; have g8 := (HY.out.1.alloc (.cells #[.int .i64 rp, .int .i64 rn, .int .i64 rt, .int .i64 ro, .int .i64 rw', .int .i64 rk, .string tx] 49)).grown hgrow8 (fun e => by have := HY.out.2.2 _ e; omega); have hb8 := bgrown (balloc (Below.refl wY.heap.size wY) (.cells #[.int .i64 rp, .int .i64 rn, .int .i64 rt, .int .i64 ro, .int .i64 rw', .int .i64 rk, .string tx] 49)) hgrow8; obtain ⟨p0, p1, p2, p3⟩ := g8.all2; have h8l := g8.lt; have H8 := hide (And.intro hown8 (And.intro g8 hgrow8)); clear hown8 hgrow8 hor8 hown7 gA g8 hb8)
        obtain ⟨h1, h2, h3⟩ := H8.out
        obtain ⟨gR, gZ, gO, hown, hb⟩ := HB.out
        have hbY := HY.out.2.1
        have hge := HY.out.2.2
        refine ⟨⟨k + 1, _, hlt, h6, rfl, ?_, ?_, h2.set 1 (.slice Aw (k + 1) cw), ?_, ?_⟩, ?_⟩
        · exact (((gR.below hbY gR.lt).alloc (.cells #[.int .i64 rp, .int .i64 rn, .int .i64 rt, .int .i64 ro, .int .i64 rw', .int .i64 rk, .string tx] 49)).grown h3 (fun e => by have := hge _ e; omega)).other (by simp; omega) _
        · exact (((gZ.below hbY gZ.lt).alloc (.cells #[.int .i64 rp, .int .i64 rn, .int .i64 rt, .int .i64 ro, .int .i64 rw', .int .i64 rk, .string tx] 49)).grown h3 (fun e => by have := hge _ e; omega)).other (by simp) _
        · rw [HT.out, List.flatMap_append]
          refine own_set ?_ _ (by simp) _
          simpa using h1
        · exact bset (bgrown (balloc (bthen hb hbY) (.cells #[.int .i64 rp, .int .i64 rn, .int .i64 rt, .int .i64 ro, .int .i64 rw', .int .i64 rk, .string tx] 49)) h3 (fun j e => by have := hge j e; omega)) (by simp; omega) _
        · show 6 - ((k : Int) + 1).toNat < 6 - ((k : Nat) : Int).toNat
          omega
      · have hj6 : ¬ ((k : Int) < 6) := by omega
        have hji : (k : Int) < (N : Int) := by omega
        have HF := hide (show (l.take k).map cut20 = fewL l by unfold fewL; rw [show k = 6 from by omega])
        have HLn := hide (show (fewL l).length = k by rw [← HF.out, List.length_map, List.length_take]; have := HL.out; omega)
        rw [HF.out] at hown
        obtain ⟨z0, z1, z2, z3⟩ := gZ.all2
        have hzl := gZ.lt
        obtain ⟨o0, o1, o2, o3⟩ := gO.all2
        have hol := gO.lt
        have HB := hide (And.intro hown (And.intro hb (And.intro hv1 hv2)))
        clear gR gZ gO hown hb
        go_wp2
        refine bodyPost_ret (v := .agg #[.int .i64 p, .slice Av k cv]) (by simp [results, Tryz.results12, go_sem, z0, z1]) rfl ⟨⟨Av, cv, by rw [HLn.out], by rw [HLn.out]; exact HB.out.2.2.1, by have := HB.out.2.2.2; unfold maxLen at this; omega, ?_⟩, ?_⟩
        · rw [HLn.out]
          exact (own_sln (own_set (own_set HB.out.1 ⟨w.heap.size + 1, 0, none⟩ (by dsimp only; omega) (.int .i64 p)) ⟨w.heap.size + 1, 1, none⟩ (by dsimp only; omega) (.slice Av k cv))).mono (by omega)
        · exact (HB.out.2.1.setCell (by simp) _).setCell (by simp) _
    · have hji : ¬ ((k : Int) < (N : Int)) := by omega
      have HF := hide (show (l.take k).map cut20 = fewL l by unfold fewL; rw [List.take_of_length_le (by have := HL.out; omega), List.take_of_length_le (by have := HL.out; omega)])
      have HLn := hide (show (fewL l).length = k by rw [← HF.out, List.length_map, List.length_take]; have := HL.out; omega)
      rw [HF.out] at hown
      obtain ⟨z0, z1, z2, z3⟩ := gZ.all2
      have hzl := gZ.lt
      obtain ⟨o0, o1, o2, o3⟩ := gO.all2
      have hol := gO.lt
      have HB := hide (And.intro hown (And.intro hb (And.intro hv1 hv2)))
      clear gR gZ gO hown hb
      go_wp2
      refine bodyPost_ret (v := .agg #[.int .i64 p, .slice Av k cv]) (by simp [results, Tryz.results12, go_sem, z0, z1]) rfl ⟨⟨Av, cv, by rw [HLn.out], by rw [HLn.out]; exact HB.out.2.2.1, by have := HB.out.2.2.2; unfold maxLen at this; omega, ?_⟩, ?_⟩
      · rw [HLn.out]
        exact (own_sln (own_set (own_set HB.out.1 ⟨w.heap.size + 1, 0, none⟩ (by dsimp only; omega) (.int .i64 p)) ⟨w.heap.size + 1, 1, none⟩ (by dsimp only; omega) (.slice Av k cv))).mono (by omega)
      · exact (HB.out.2.1.setCell (by simp) _).setCell (by simp) _
end Go.Proofs.YtcfbgelhggapjaaGreatDoor
/- Plain words on the example with which each law begins. No program here. -/
namespace Go.Proofs.YtcfbgelhggapjaaGreatDoor
def ra : Rc := ⟨2, 1, 100, -1, 0, 1, ⟨#[119, 104, 111, 108, 101]⟩⟩
def rs : Rc := ⟨2, 2, 150, 2, 1, 1, ⟨#[115, 116, 97, 105, 110, 101, 100]⟩⟩
def rb : Rc := ⟨5, 1, 200, 2, 1, 1, ⟨#[99, 114, 97, 99, 107, 101, 100]⟩⟩
theorem ex_add : addM 2 [] ⟨0, 0, 100, -1, 0, 1, ⟨#[119, 104, 111, 108, 101]⟩⟩ = some [ra] := by decide +kernel
theorem ex_mrg : mrgM 5 [] 2 [ra] = some [ra] := by decide +kernel
theorem ex_cor5 : corM 5 [ra] ⟨0, 0, 200, 2, 1, 1, ⟨#[99, 114, 97, 99, 107, 101, 100]⟩⟩ = some [ra, rb] := by decide +kernel
theorem ex_cor2 : corM 2 [ra] ⟨0, 0, 150, 2, 1, 1, ⟨#[115, 116, 97, 105, 110, 101, 100]⟩⟩ = some [ra, rs] := by decide +kernel
theorem ex_beh : behM 2 [ra, rs] 5 [ra, rb] = some [rb] := by decide +kernel
theorem ex_both : mrgM 2 [ra, rs] 5 [ra, rb] = some [ra, rs, rb] := by decide +kernel
theorem ex_v2 : vrB 2 [ra, rs] = true := by decide +kernel
theorem ex_v5 : vrB 5 [ra, rb] = true := by decide +kernel
theorem ex_vb : vrB 2 [ra, rs, rb] = true := by decide +kernel
theorem ex_vn : vrB (-1) [] = false := by decide +kernel
theorem ord_self {l : List Rc} (hn : (l.map keyR).Nodup) (hs : l.Pairwise (fun a b => bfB a b = true)) : ordL l = l := (ord_uniq hn hs (fun _ => Iff.rfl)).symm
theorem ex_o2 : ordL [ra, rs] = [ra, rs] := ord_self (by decide +kernel) (by decide +kernel)
theorem ex_o5 : ordL [ra, rb] = [ra, rb] := ord_self (by decide +kernel) (by decide +kernel)
theorem ex_ob : ordL [ra, rs, rb] = [ra, rs, rb] := ord_self (by decide +kernel) (by decide +kernel)
theorem ex_f2 : foldL [ra, rs] = [rs] := by
  have : foldL [ra, rs] = (([ra, rs]).filter rootB).filterMap (fun r => match ([ra, rs].filter (fun x => decide (keyR (rootR [ra, rs] x) = keyR r))).getLast? with | some x => if x.text.size = 0 then none else some x | none => none) := by
    unfold foldL holdR famL; rw [ex_o2] <;> rfl
  rw [this]; decide +kernel
theorem ex_f5 : foldL [ra, rb] = [rb] := by
  have : foldL [ra, rb] = (([ra, rb]).filter rootB).filterMap (fun r => match ([ra, rb].filter (fun x => decide (keyR (rootR [ra, rb] x) = keyR r))).getLast? with | some x => if x.text.size = 0 then none else some x | none => none) := by
    unfold foldL holdR famL; rw [ex_o5] <;> rfl
  rw [this]; decide +kernel
theorem ex_fb : foldL [ra, rs, rb] = [rb] := by
  have : foldL [ra, rs, rb] = (([ra, rs, rb]).filter rootB).filterMap (fun r => match ([ra, rs, rb].filter (fun x => decide (keyR (rootR [ra, rs, rb] x) = keyR r))).getLast? with | some x => if x.text.size = 0 then none else some x | none => none) := by
    unfold foldL holdR famL; rw [ex_ob] <;> rfl
  rw [this]; decide +kernel
theorem ex_h1 : histL [ra, rs, rb] (2, 1) = some [ra, rs, rb] := by
  have : histL [ra, rs, rb] (2, 1) = (fdR (2, 1) [ra, rs, rb]).map (fun r => [ra, rs, rb].filter (fun x => decide (keyR (rootR [ra, rs, rb] x) = keyR (rootR [ra, rs, rb] r)))) := by
    unfold histL famL; rw [ex_ob]
  rw [this]; decide +kernel
theorem ex_h2 : histL [ra, rs, rb] (3, 1) = none := by
  have : fdR (3, 1) [ra, rs, rb] = none := by decide +kernel
  unfold histL; rw [this]; rfl
theorem ex_fm : fmB rb = true := by decide +kernel
theorem ex_enc : encM rb = some (encR rb) := by unfold encM; rw [if_pos ex_fm]
theorem ex_dec : decM (encR rb) = some rb := dec_enc ex_fm
end Go.Proofs.YtcfbgelhggapjaaGreatDoor
/- Replica: sane: the law's examples hold. -/
namespace Go.Proofs.YtcfbgelhggapjaaGreatDoor
open Go.RowKit Go.Shelf
theorem RepPost.some' {q : Int} {m : List Rc} {n : Nat} {w w' : World} {e : Ending} (hn : m.length = n) (h : RepPost q (some m) w e w') :
    Below w.heap.size w w' ∧ ∃ A c, e = .returned (.tuple #[.agg #[.int .i64 q, .slice A n c], .int .i64 0]) ∧ n ≤ c ∧ c ≤ 9223372036854775807 ∧ SlN w' w.heap.size 7 A n (m.flatMap cR) := by
  subst hn
  obtain ⟨h1, ⟨h2, _⟩ | ⟨m', A, c, h2, h3, h4, h5, h6⟩⟩ := h
  · cases h2
  · obtain rfl := Option.some.inj h2
    exact ⟨h1, A, c, h3, h4, h5, h6⟩
theorem RepPost.none' {q : Int} {w w' : World} {e : Ending} (h : RepPost q none w e w') : Below w.heap.size w w' ∧ e = .returned (.tuple #[.agg #[.int .i64 0, .slice none 0 0], .int .i64 350]) := by
  obtain ⟨h1, ⟨_, h2⟩ | ⟨m', A, c, h2, _⟩⟩ := h
  · exact ⟨h1, h2⟩
  · cases h2
theorem BehPost.some' {m : List Rc} {n : Nat} {w w' : World} {e : Ending} (hn : m.length = n) (h : BehPost (some m) w e w') :
    Below w.heap.size w w' ∧ ∃ A c, e = .returned (.tuple #[.slice A n c, .int .i64 0]) ∧ n ≤ c ∧ c ≤ 9223372036854775807 ∧ SlN w' w.heap.size 7 A n (m.flatMap cR) := by
  subst hn
  obtain ⟨h1, ⟨h2, _⟩ | ⟨m', A, c, h2, h3, h4, h5, h6⟩⟩ := h
  · cases h2
  · obtain rfl := Option.some.inj h2
    exact ⟨h1, A, c, h3, h4, h5, h6⟩
theorem BehPost.none' {w w' : World} {e : Ending} (h : BehPost none w e w') : Below w.heap.size w w' ∧ e = .returned (.tuple #[.slice none 0 0, .int .i64 350]) := by
  obtain ⟨h1, ⟨_, h2⟩ | ⟨m', A, c, h2, _⟩⟩ := h
  · exact ⟨h1, h2⟩
  · cases h2
theorem ex_size : (encR rb).size ≤ 1000000 := by
  have h := outE_size rb (fun n hn => encI_size (by have := nsR_in hn (by decide) (by decide) (by decide) (by decide) (by decide) (by decide) (by decide) (by decide) (by decide) (by decide) (by decide) (by decide); unfold maxI; omega) (by have := nsR_in hn (by decide) (by decide) (by decide) (by decide) (by decide) (by decide) (by decide) (by decide) (by decide) (by decide) (by decide) (by decide); unfold maxI; omega)) 6
  have e : encR rb = outE rb 6 ++ encS rb.text := rfl
  have h2 := encI_size (n := (rb.text.size : Int)) (by decide) (by decide)
  have h3 : rb.text.size = 7 := by decide
  rw [e, ByteArray.size_append]
  unfold encS
  rw [ByteArray.size_append]
  omega
def n_le (n c : Nat) : Prop := n ≤ c ∧ c ≤ 9223372036854775807
/-- two replicas in boxes of their own -/
structure Two (w : World) (b1 b3 : Nat) (p1 p3 : Int) (A1 A3 : Option Addr) (n1 n3 c1 c3 : Nat) (l1 l3 : List Rc) (W : World) : Prop where
  rl : RL W
  g1 : Blk W b1 25 [.int .i64 p1, .slice A1 n1 c1]
  g3 : Blk W b3 25 [.int .i64 p3, .slice A3 n3 c3]
  lt : 0 < b1 ∧ b1 < b3
  s1 : SlN W (b3 + 1) 7 A1 n1 (l1.flatMap cR)
  s3 : SlN W (b3 + 1) 7 A3 n3 (l3.flatMap cR)
  k1 : n1 ≤ c1 ∧ c1 ≤ 9223372036854775807
  k3 : n3 ≤ c3 ∧ c3 ≤ 9223372036854775807
  bel : Below w.heap.size w W
  low : w.heap.size ≤ b1
section
variable {w W W' : World} {b1 b3 : Nat} {p1 p3 : Int} {A1 A3 A : Option Addr} {n1 n3 c1 c3 n c : Nat} {l1 l3 l : List Rc}
theorem Two.to (h : Two w b1 b3 p1 p3 A1 A3 n1 n3 c1 c3 l1 l3 W) (hb : Below W.heap.size W W') : Two w b1 b3 p1 p3 A1 A3 n1 n3 c1 c3 l1 l3 W' :=
  ⟨h.rl.to' hb, h.g1.below hb h.g1.lt, h.g3.below hb h.g3.lt, h.lt, h.s1.to hb, h.s3.to hb, h.k1, h.k3, bthen h.bel hb, h.low⟩
theorem RL.set {W : World} (h : RL W) {p : Addr} (hp : 0 < p.block) (u : Value) : RL (W.setCell p u) := by
  obtain ⟨h1, h2⟩ := h
  exact ⟨(cell_same (Below.heap_setCell W p u 0 (by omega))).trans h1, (cell_same (Below.heap_setCell W p u 0 (by omega))).trans h2⟩
theorem Two.put1 (h : Two w b1 b3 p1 p3 A1 A3 n1 n3 c1 c3 l1 l3 W) (hs : SlN W (b3 + 1) 7 A n (l.flatMap cR)) (hk : n ≤ c ∧ c ≤ 9223372036854775807) (q : Int) :
    Two w b1 b3 q p3 A A3 n n3 c c3 l l3 ((W.setCell ⟨b1, 0, none⟩ (.int .i64 q)).setCell ⟨b1, 1, none⟩ (.slice A n c)) := by
  have hl := h.lt
  exact ⟨(h.rl.set (p := ⟨b1, 0, none⟩) hl.1 _).set (p := ⟨b1, 1, none⟩) hl.1 _, (h.g1.set 0 (.int .i64 q)).set 1 (.slice A n c), (h.g3.other (by dsimp only; omega) _).other (by dsimp only; omega) _, hl, (hs.set ⟨b1, 0, none⟩ (by dsimp only; omega) _).set ⟨b1, 1, none⟩ (by dsimp only; omega) _, (h.s3.set ⟨b1, 0, none⟩ (by dsimp only; omega) _).set ⟨b1, 1, none⟩ (by dsimp only; omega) _, hk, h.k3, bset (p := ⟨b1, 1, none⟩) (bset (p := ⟨b1, 0, none⟩) h.bel h.low _) h.low _, h.low⟩
theorem Two.put3 (h : Two w b1 b3 p1 p3 A1 A3 n1 n3 c1 c3 l1 l3 W) (hs : SlN W (b3 + 1) 7 A n (l.flatMap cR)) (hk : n ≤ c ∧ c ≤ 9223372036854775807) (q : Int) :
    Two w b1 b3 p1 q A1 A n1 n c1 c l1 l ((W.setCell ⟨b3, 0, none⟩ (.int .i64 q)).setCell ⟨b3, 1, none⟩ (.slice A n c)) := by
  have hl := h.lt
  have hlow := h.low
  exact ⟨(h.rl.set (p := ⟨b3, 0, none⟩) (by dsimp only; omega) _).set (p := ⟨b3, 1, none⟩) (by dsimp only; omega) _, (h.g1.other (by dsimp only; omega) _).other (by dsimp only; omega) _, (h.g3.set 0 (.int .i64 q)).set 1 (.slice A n c), hl, (h.s1.set ⟨b3, 0, none⟩ (by dsimp only; omega) _).set ⟨b3, 1, none⟩ (by dsimp only; omega) _, (hs.set ⟨b3, 0, none⟩ (by dsimp only; omega) _).set ⟨b3, 1, none⟩ (by dsimp only; omega) _, h.k1, hk, bset (p := ⟨b3, 1, none⟩) (bset (p := ⟨b3, 0, none⟩) h.bel (by dsimp only; omega) _) (by dsimp only; omega) _, h.low⟩
end
set_option linter.unusedSimpArgs false in
set_option maxRecDepth 100000 in
set_option maxHeartbeats 16000000 in
theorem c_lsane (w : World) (hR : RL w) : Calls Tryz.prog 10 #[] w fun e w' => e = .returned (.bool true) ∧ Below w.heap.size w w' := by
  have hw0 := hR.lt
  have HRw := hide hR
  go_enter Tryz.func10, Tryz.ntmps10
  go_upto_region 2 with (go_at_call 33; refine (c_pNew 2 w HRw.out).mono ?_; rintro e w1 hp; obtain ⟨hb1, A1, c1, rfl, -, hc1, -⟩ := RepPost.some' (m := []) (n := 0) rfl hp; clear hp)
  have g1 := Blk.new w1 25 [.int .i64 2, .slice A1 0 c1]
  have hb2 := balloc hb1 (.cells #[.int .i64 2, .slice A1 0 c1] 25)
  have hs1 := hb1.size
  have hs2 : w1.heap.size < (w1.alloc (.cells #[.int .i64 2, .slice A1 0 c1] 25)).heap.size := by simp
  generalize w1.alloc (.cells #[.int .i64 2, .slice A1 0 c1] 25) = w2 at *
  go_upto_region 3 with (go_at_call 33; refine (c_pNew 5 w2 (HRw.out.to' hb2)).mono ?_; rintro e w3 hp; obtain ⟨hb3, A3, c3, rfl, -, hc3, -⟩ := RepPost.some' (m := []) (n := 0) rfl hp; clear hp)
  have hs3 := hb3.size
  have hs3l : w3.heap.size < (w3.alloc (.cells #[.int .i64 5, .slice A3 0 c3] 25)).heap.size := by simp
  have T4 : Two w w1.heap.size w3.heap.size 2 5 A1 A3 0 0 c1 c3 [] [] (w3.alloc (.cells #[.int .i64 5, .slice A3 0 c3] 25)) :=
    ⟨(HRw.out.to' hb2).to' (balloc hb3 _), (g1.below hb3 g1.lt).alloc _, Blk.new w3 25 [.int .i64 5, .slice A3 0 c3], ⟨by omega, by omega⟩, SlN.nil, SlN.nil, ⟨Nat.zero_le _, hc1⟩, ⟨Nat.zero_le _, hc3⟩, balloc (bthen hb2 hb3) _, hs1⟩
  have hb31 : w1.heap.size < w3.heap.size := by omega
  clear g1 hb2 hb1 hb3
  generalize w3.alloc (.cells #[.int .i64 5, .slice A3 0 c3] 25) = w4 at *
  generalize w1.heap.size = b1 at *
  generalize w3.heap.size = b3 at *
  have H4 := hide T4
  clear T4 hs1 hs2 hs3 hs3l
  obtain ⟨x0, x1, x2, x3⟩ := H4.out.g1.all2; have hx := H4.out.g1.lt; obtain ⟨y0, y1, y2, y3⟩ := H4.out.g3.all2; have hy := H4.out.g3.lt
  go_upto_region 4 with (go_at_call 18; refine (c_pAdd 2 100 1 ⟨#[119, 104, 111, 108, 101]⟩ A1 0 c1 [] w4 H4.out.rl H4.out.k1.1 H4.out.k1.2 H4.out.s1.1).mono ?_; rintro e v5 hp; rw [ex_add] at hp; obtain ⟨hb, A5, c5, rfl, hk1, hk2, hsn⟩ := RepPost.some' (m := [ra]) (n := 1) rfl hp; clear hp x0 x1 x2 x3 hx y0 y1 y2 y3 hy; have G5 := hide (And.intro (H4.out.to hb) (And.intro (hsn.mono (Nat.succ_le_of_lt H4.out.g3.lt)) (And.intro hk1 hk2))); clear hb hsn hk1 hk2; obtain ⟨x0, x1, x2, x3⟩ := G5.out.1.g1.all2; have hx := G5.out.1.g1.lt)
  have H5 := hide (G5.out.1.put1 G5.out.2.1 G5.out.2.2 2)
  generalize (v5.setCell ⟨b1, 0, none⟩ (.int .i64 2)).setCell ⟨b1, 1, none⟩ (.slice A5 1 c5) = w5 at *
  clear x0 x1 x2 x3 hx G5
  obtain ⟨x0, x1, x2, x3⟩ := H5.out.g1.all2; have hx := H5.out.g1.lt; obtain ⟨y0, y1, y2, y3⟩ := H5.out.g3.all2; have hy := H5.out.g3.lt
  go_upto_region 5 with (go_at_call 26; refine (c_pMerge 5 A3 0 c3 [] 2 A5 1 c5 [ra] w5 H5.out.rl (by omega) (by omega) H5.out.s3.1 H5.out.s1.1).mono ?_; rintro e v6 hp; rw [ex_mrg] at hp; obtain ⟨hb, A6, c6, rfl, hk1, hk2, hsn⟩ := RepPost.some' (m := [ra]) (n := 1) rfl hp; clear hp x0 x1 x2 x3 hx y0 y1 y2 y3 hy; have G6 := hide (And.intro (H5.out.to hb) (And.intro (hsn.mono (Nat.succ_le_of_lt H5.out.g3.lt)) (And.intro hk1 hk2))); clear hb hsn hk1 hk2; obtain ⟨x0, x1, x2, x3⟩ := G6.out.1.g3.all2; have hx := G6.out.1.g3.lt)
  have H6 := hide (G6.out.1.put3 G6.out.2.1 G6.out.2.2 5)
  generalize (v6.setCell ⟨b3, 0, none⟩ (.int .i64 5)).setCell ⟨b3, 1, none⟩ (.slice A6 1 c6) = w6 at *
  clear x0 x1 x2 x3 hx G6
  obtain ⟨x0, x1, x2, x3⟩ := H6.out.g1.all2; have hx := H6.out.g1.lt; obtain ⟨y0, y1, y2, y3⟩ := H6.out.g3.all2; have hy := H6.out.g3.lt
  go_upto_region 6 with (go_at_call 22; refine (c_pCorrect 5 200 2 1 1 ⟨#[99, 114, 97, 99, 107, 101, 100]⟩ A6 1 c6 [ra] w6 H6.out.rl H6.out.k3.1 H6.out.k3.2 H6.out.s3.1).mono ?_; rintro e v7 hp; rw [ex_cor5] at hp; obtain ⟨hb, A7, c7, rfl, hk1, hk2, hsn⟩ := RepPost.some' (m := [ra, rb]) (n := 2) rfl hp; clear hp x0 x1 x2 x3 hx y0 y1 y2 y3 hy; have G7 := hide (And.intro (H6.out.to hb) (And.intro (hsn.mono (Nat.succ_le_of_lt H6.out.g3.lt)) (And.intro hk1 hk2))); clear hb hsn hk1 hk2; obtain ⟨x0, x1, x2, x3⟩ := G7.out.1.g3.all2; have hx := G7.out.1.g3.lt)
  have H7 := hide (G7.out.1.put3 G7.out.2.1 G7.out.2.2 5)
  generalize (v7.setCell ⟨b3, 0, none⟩ (.int .i64 5)).setCell ⟨b3, 1, none⟩ (.slice A7 2 c7) = w7 at *
  clear x0 x1 x2 x3 hx G7
  obtain ⟨x0, x1, x2, x3⟩ := H7.out.g1.all2; have hx := H7.out.g1.lt; obtain ⟨y0, y1, y2, y3⟩ := H7.out.g3.all2; have hy := H7.out.g3.lt
  go_upto_region 7 with (go_at_call 22; refine (c_pCorrect 2 150 2 1 1 ⟨#[115, 116, 97, 105, 110, 101, 100]⟩ A5 1 c5 [ra] w7 H7.out.rl H7.out.k1.1 H7.out.k1.2 H7.out.s1.1).mono ?_; rintro e v8 hp; rw [ex_cor2] at hp; obtain ⟨hb, A8, c8, rfl, hk1, hk2, hsn⟩ := RepPost.some' (m := [ra, rs]) (n := 2) rfl hp; clear hp x0 x1 x2 x3 hx y0 y1 y2 y3 hy; have G8 := hide (And.intro (H7.out.to hb) (And.intro (hsn.mono (Nat.succ_le_of_lt H7.out.g3.lt)) (And.intro hk1 hk2))); clear hb hsn hk1 hk2; obtain ⟨x0, x1, x2, x3⟩ := G8.out.1.g1.all2; have hx := G8.out.1.g1.lt)
  have H8 := hide (G8.out.1.put1 G8.out.2.1 G8.out.2.2 2)
  generalize (v8.setCell ⟨b1, 0, none⟩ (.int .i64 2)).setCell ⟨b1, 1, none⟩ (.slice A8 2 c8) = w8 at *
  clear x0 x1 x2 x3 hx G8
  have HB0 := hide (Below.refl w8.heap.size w8)
  obtain ⟨x0, x1, x2, x3⟩ := (H8.out.to HB0.out).g1.all2
  have hx := (H8.out.to HB0.out).g1.lt
  go_upto_region 10 with (go_at_call 13; refine (c_pFold 2 A8 2 c8 [ra, rs] w8 (H8.out.to HB0.out).rl (by omega) (H8.out.to HB0.out).s1.1).mono ?_; rintro e u1 hp; rw [ex_v2, ex_f2, if_pos rfl] at hp; obtain ⟨hb, B1, d1, rfl, hk1, hk2, hsn⟩ := BehPost.some' (m := [rs]) (n := 1) rfl hp; have S1 : Hid (n_le 1 d1 ∧ ∀ W, Below u1.heap.size u1 W → SlR W W.heap.size 7 B1 1 (([rs] : List Rc).flatMap cR)) := hide ⟨⟨hk1, hk2⟩, fun W h => hsn.1.to' h⟩; clear hk1 hk2 hsn; have HB1 := hide (bthen HB0.out hb); have E1 := hide hb; clear hp hb x0 x1 x2 x3 hx)
  obtain ⟨y0, y1, y2, y3⟩ := (H8.out.to HB1.out).g3.all2
  have hy := (H8.out.to HB1.out).g3.lt
  go_upto_region 11 with (go_at_call 13; refine (c_pFold 5 A7 2 c7 [ra, rb] u1 (H8.out.to HB1.out).rl (by omega) (H8.out.to HB1.out).s3.1).mono ?_; rintro e u2 hp; rw [ex_v5, ex_f5, if_pos rfl] at hp; obtain ⟨hb, B2, d2, rfl, hk1, hk2, hsn⟩ := BehPost.some' (m := [rb]) (n := 1) rfl hp; have S2 : Hid (n_le 1 d2 ∧ ∀ W, Below u2.heap.size u2 W → SlR W W.heap.size 7 B2 1 (([rb] : List Rc).flatMap cR)) := hide ⟨⟨hk1, hk2⟩, fun W h => hsn.1.to' h⟩; clear hk1 hk2 hsn; have HB2 := hide (bthen HB1.out hb); have E2 := hide hb; clear hp hb y0 y1 y2 y3 hy)
  obtain ⟨x0, x1, x2, x3⟩ := (H8.out.to HB2.out).g1.all2
  have hx := (H8.out.to HB2.out).g1.lt
  obtain ⟨y0, y1, y2, y3⟩ := (H8.out.to HB2.out).g3.all2
  have hy := (H8.out.to HB2.out).g3.lt
  go_upto_region 12 with (go_at_call 28; refine (c_pBehind 2 A8 2 c8 [ra, rs] 5 A7 2 c7 [ra, rb] u2 (H8.out.to HB2.out).rl (by omega) (by omega) (H8.out.to HB2.out).s1.1 (H8.out.to HB2.out).s3.1).mono ?_; rintro e u3 hp; rw [ex_beh] at hp; obtain ⟨hb, B3, d3, rfl, hk1, hk2, hsn⟩ := BehPost.some' (m := [rb]) (n := 1) rfl hp; have S3 : Hid (n_le 1 d3 ∧ ∀ W, Below u3.heap.size u3 W → SlR W W.heap.size 7 B3 1 (([rb] : List Rc).flatMap cR)) := hide ⟨⟨hk1, hk2⟩, fun W h => hsn.1.to' h⟩; clear hk1 hk2 hsn; have HB3 := hide (bthen HB2.out hb); have E3 := hide hb; clear hp hb x0 x1 x2 x3 hx y0 y1 y2 y3 hy)
  obtain ⟨x0, x1, x2, x3⟩ := (H8.out.to HB3.out).g1.all2
  have hx := (H8.out.to HB3.out).g1.lt
  obtain ⟨y0, y1, y2, y3⟩ := (H8.out.to HB3.out).g3.all2
  have hy := (H8.out.to HB3.out).g3.lt
  go_upto_region 13 with (go_at_call 26; refine (c_pMerge 2 A8 2 c8 [ra, rs] 5 A7 2 c7 [ra, rb] u3 (H8.out.to HB3.out).rl (by omega) (by omega) (H8.out.to HB3.out).s1.1 (H8.out.to HB3.out).s3.1).mono ?_; rintro e u4 hp; rw [ex_both] at hp; obtain ⟨hb, B4, d4, rfl, hk1, hk2, hsn⟩ := RepPost.some' (m := [ra, rs, rb]) (n := 3) rfl hp; have S4 : Hid (n_le 3 d4 ∧ ∀ W, Below u4.heap.size u4 W → SlR W W.heap.size 7 B4 3 (([ra, rs, rb] : List Rc).flatMap cR)) := hide ⟨⟨hk1, hk2⟩, fun W h => hsn.1.to' h⟩; clear hk1 hk2 hsn; have HB4 := hide (bthen HB3.out hb); have E4 := hide hb; clear hp hb x0 x1 x2 x3 hx y0 y1 y2 y3 hy)
  have g15 := Blk.new u4 25 [.int .i64 2, .slice B4 3 d4]
  have h15 := balloc (Below.refl u4.heap.size u4) (.cells #[.int .i64 2, .slice B4 3 d4] 25)
  generalize u4.alloc (.cells #[.int .i64 2, .slice B4 3 d4] 25) = uX at *
  have G15 : Hid (∀ W, Below uX.heap.size uX W → Blk W u4.heap.size 25 [.int .i64 2, .slice B4 3 d4] ∧ SlR W W.heap.size 7 B4 3 (([ra, rs, rb] : List Rc).flatMap cR)) := hide (fun W h => ⟨g15.below h g15.lt, S4.out.2 W (bthen h15 h)⟩)
  have HBX := hide (bthen HB4.out h15)
  have HX15 := hide h15
  have HC0 := hide (Below.refl uX.heap.size uX)
  clear g15 h15
  obtain ⟨z0, z1, z2, z3⟩ := (G15.out uX HC0.out).1.all2
  have hz := (G15.out uX HC0.out).1.lt
  go_upto_region 14 with (go_at_call 13; refine (c_pFold 2 B4 3 d4 [ra, rs, rb] uX (H8.out.to HBX.out).rl (by omega) (G15.out uX HC0.out).2).mono ?_; rintro e u5 hp; rw [ex_vb, ex_fb, if_pos rfl] at hp; obtain ⟨hb, B5, d5, rfl, hk1, hk2, hsn⟩ := BehPost.some' (m := [rb]) (n := 1) rfl hp; have S5 : Hid (n_le 1 d5 ∧ ∀ W, Below u5.heap.size u5 W → SlR W W.heap.size 7 B5 1 (([rb] : List Rc).flatMap cR)) := hide ⟨⟨hk1, hk2⟩, fun W h => hsn.1.to' h⟩; clear hk1 hk2 hsn; have HB5 := hide (bthen HBX.out hb); have HC5 := hide (bthen HC0.out hb); have E5 := hide hb; clear hp hb z0 z1 z2 z3 hz)
  obtain ⟨z0, z1, z2, z3⟩ := (G15.out u5 HC5.out).1.all2
  have hz := (G15.out u5 HC5.out).1.lt
  go_upto_region 15 with (go_at_call 24; refine (c_pHistory 2 B4 3 d4 [ra, rs, rb] 2 1 u5 (H8.out.to HB5.out).rl (by omega) (G15.out u5 HC5.out).2).mono ?_; rintro e u6 hp; rw [ex_vb, if_pos rfl, ex_h1] at hp; obtain ⟨hb, B6, d6, rfl, hk1, hk2, hsn⟩ := BehPost.some' (m := [ra, rs, rb]) (n := 3) rfl hp; have S6 : Hid (n_le 3 d6 ∧ ∀ W, Below u6.heap.size u6 W → SlR W W.heap.size 7 B6 3 (([ra, rs, rb] : List Rc).flatMap cR)) := hide ⟨⟨hk1, hk2⟩, fun W h => hsn.1.to' h⟩; clear hk1 hk2 hsn; have HB6 := hide (bthen HB5.out hb); have HC6 := hide (bthen HC5.out hb); have E6 := hide hb; clear hp hb z0 z1 z2 z3 hz)
  obtain ⟨z0, z1, z2, z3⟩ := (G15.out u6 HC6.out).1.all2
  have hz := (G15.out u6 HC6.out).1.lt
  go_upto_region 16 with (go_at_call 24; refine (c_pHistory 2 B4 3 d4 [ra, rs, rb] 3 1 u6 (H8.out.to HB6.out).rl (by omega) (G15.out u6 HC6.out).2).mono ?_; rintro e u7 hp; rw [ex_vb, if_pos rfl, ex_h2] at hp; obtain ⟨hb, rfl⟩ := BehPost.none' hp; have HB7 := hide (bthen HB6.out hb); have HC7 := hide (bthen HC6.out hb); have E7 := hide hb; clear hp hb z0 z1 z2 z3 hz)
  
  go_upto_region 17 with (go_at_call 33; refine (c_pNew 40 u7 (H8.out.to HB7.out).rl).mono ?_; rintro e u8 hp; rw [show newM 40 = none from rfl] at hp; obtain ⟨hb, rfl⟩ := RepPost.none' hp; have HB8 := hide (bthen HB7.out hb); have HC8 := hide (bthen HC7.out hb); have E8 := hide hb; clear hp hb )
  have h23 := balloc (Below.refl u8.heap.size u8) (.cells #[.int .i64 0, .slice none 0 0] 25)
  generalize u8.alloc (.cells #[.int .i64 0, .slice none 0 0] 25) = uY at *
  have HBY := hide (bthen HB8.out h23)
  have HCY := hide (bthen HC8.out h23)
  have HY := hide h23
  clear h23
  have HM : Hid (∀ W, Below uY.heap.size uY W → SlR W W.heap.size 7 B3 1 (([rb] : List Rc).flatMap cR)) := hide (fun W h => S3.out.2 W (bthen (bthen (bthen (bthen (bthen (bthen (bthen E4.out HX15.out) E5.out) E6.out) E7.out) E8.out) HY.out) h))
  obtain ⟨bm, om, rfl, hbm⟩ := (HM.out uY (Below.refl _ _)).some_of (by omega)
  have HMc : Hid (∀ W, Below uY.heap.size uY W → W.cell? ⟨bm, om, none⟩ = some (.int .i64 5) ∧ W.cell? ⟨bm, om + 1, none⟩ = some (.int .i64 1) ∧ W.cell? ⟨bm, om + 2, none⟩ = some (.int .i64 200) ∧ W.cell? ⟨bm, om + 3, none⟩ = some (.int .i64 2) ∧ W.cell? ⟨bm, om + 4, none⟩ = some (.int .i64 1) ∧ W.cell? ⟨bm, om + 5, none⟩ = some (.int .i64 1) ∧ W.cell? ⟨bm, om + 6, none⟩ = some (.string ⟨#[99, 114, 97, 99, 107, 101, 100]⟩)) := hide (fun W h => by
    have := ((HM.out W h).cellsR (Below.refl _ _) (k := 0) (by decide)).2
    simpa [rb] using this)
  obtain ⟨m0, m1, m2, m3, m4, m5, m6⟩ := HMc.out uY (Below.refl _ _)
  have hE := c_pEncode rb uY (H8.out.to HBY.out).rl
  unfold EncPost at hE
  rw [ex_enc] at hE
  obtain ⟨t, ht⟩ : ∃ t, encR rb = t := ⟨_, rfl⟩
  have HT := hide ht
  rw [ht] at hE
  have hE : Calls Tryz.prog 31 #[.agg #[.int .i64 5, .int .i64 1, .int .i64 200, .int .i64 2, .int .i64 1, .int .i64 1, .string ⟨#[99, 114, 97, 99, 107, 101, 100]⟩]] uY fun e w' => Below uY.heap.size uY w' ∧ e = .returned (.tuple #[.string t, .int .i64 0]) := hE
  clear ht
  go_upto_region 20 with (go_at_call 31; refine hE.mono ?_; clear hE m0 m1 m2 m3 m4 m5 m6; rintro e u9 ⟨hb, rfl⟩; have HU9 := hide hb; clear hb)
  have hD := c_pDecode t u9 ((H8.out.to HBY.out).to HU9.out).rl (by rw [← HT.out]; exact ex_size)
  unfold DecPost at hD
  rw [← HT.out, ex_dec, HT.out] at hD
  have hD : Calls Tryz.prog 35 #[.string t] u9 fun e w' => Below u9.heap.size u9 w' ∧ e = .returned (.tuple #[.agg #[.int .i64 5, .int .i64 1, .int .i64 200, .int .i64 2, .int .i64 1, .int .i64 1, .string ⟨#[99, 114, 97, 99, 107, 101, 100]⟩], .int .i64 0]) := hD
  go_upto_region 21 with (go_at_call 35; refine hD.mono ?_; clear hD; rintro e u10 ⟨hb, rfl⟩; have HU10 := hide (bthen HU9.out hb); have E10 := hide hb; clear hb)
  have g27 := Blk.new u10 49 [.int .i64 5, .int .i64 1, .int .i64 200, .int .i64 2, .int .i64 1, .int .i64 1, .string ⟨#[99, 114, 97, 99, 107, 101, 100]⟩]
  have h27 := balloc (Below.refl u10.heap.size u10) (.cells #[.int .i64 5, .int .i64 1, .int .i64 200, .int .i64 2, .int .i64 1, .int .i64 1, .string ⟨#[99, 114, 97, 99, 107, 101, 100]⟩] 49)
  generalize u10.alloc (.cells #[.int .i64 5, .int .i64 1, .int .i64 200, .int .i64 2, .int .i64 1, .int .i64 1, .string ⟨#[99, 114, 97, 99, 107, 101, 100]⟩] 49) = uZ at *
  have HG27 := hide g27
  have HZ := hide (bthen HU10.out h27)
  have H27 := hide h27
  clear g27 h27
  have hTA : ∀ u : World, Below uZ.heap.size uZ u → Calls Tryz.prog 41 #[.slice B1 1 d1, .slice (some ⟨u.heap.size, 0, none⟩) 1 1] (u.alloc (.cells #[.string ⟨#[115, 116, 97, 105, 110, 101, 100]⟩] 9)) fun e w' => e = .returned (.bool true) ∧ Below u.heap.size u w' := fun u h => by
    have hb := balloc (Below.refl u.heap.size u) (.cells #[.string ⟨#[115, 116, 97, 105, 110, 101, 100]⟩] 9)
    have hsw := (Blk.new u 9 [.string ⟨#[115, 116, 97, 105, 110, 101, 100]⟩]).slr (k := 1) (n := 1) rfl
    have := c_ltexts B1 1 d1 [rs] (some ⟨u.heap.size, 0, none⟩) 1 1 [⟨#[115, 116, 97, 105, 110, 101, 100]⟩] _ (by omega) (by omega) (S1.out.2 _ (bthen (bthen (bthen (bthen (bthen (bthen (bthen (bthen (bthen (bthen (bthen (bthen E2.out E3.out) E4.out) HX15.out) E5.out) E6.out) E7.out) E8.out) HY.out) HU9.out) E10.out) H27.out) (bthen h hb))) hsw
    rw [show txB [rs] [⟨#[115, 116, 97, 105, 110, 101, 100]⟩] = true by decide +kernel] at this
    exact this.mono fun e w' hh => ⟨hh.1, bthen hb hh.2⟩
  have hTB : ∀ u : World, Below uZ.heap.size uZ u → Calls Tryz.prog 41 #[.slice B2 1 d2, .slice (some ⟨u.heap.size, 0, none⟩) 1 1] (u.alloc (.cells #[.string ⟨#[99, 114, 97, 99, 107, 101, 100]⟩] 9)) fun e w' => e = .returned (.bool true) ∧ Below u.heap.size u w' := fun u h => by
    have hb := balloc (Below.refl u.heap.size u) (.cells #[.string ⟨#[99, 114, 97, 99, 107, 101, 100]⟩] 9)
    have hsw := (Blk.new u 9 [.string ⟨#[99, 114, 97, 99, 107, 101, 100]⟩]).slr (k := 1) (n := 1) rfl
    have := c_ltexts B2 1 d2 [rb] (some ⟨u.heap.size, 0, none⟩) 1 1 [⟨#[99, 114, 97, 99, 107, 101, 100]⟩] _ (by omega) (by omega) (S2.out.2 _ (bthen (bthen (bthen (bthen (bthen (bthen (bthen (bthen (bthen (bthen (bthen E3.out E4.out) HX15.out) E5.out) E6.out) E7.out) E8.out) HY.out) HU9.out) E10.out) H27.out) (bthen h hb))) hsw
    rw [show txB [rb] [⟨#[99, 114, 97, 99, 107, 101, 100]⟩] = true by decide +kernel] at this
    exact this.mono fun e w' hh => ⟨hh.1, bthen hb hh.2⟩
  have hTC : ∀ u : World, Below uZ.heap.size uZ u → Calls Tryz.prog 41 #[.slice B5 1 d5, .slice (some ⟨u.heap.size, 0, none⟩) 1 1] (u.alloc (.cells #[.string ⟨#[99, 114, 97, 99, 107, 101, 100]⟩] 9)) fun e w' => e = .returned (.bool true) ∧ Below u.heap.size u w' := fun u h => by
    have hb := balloc (Below.refl u.heap.size u) (.cells #[.string ⟨#[99, 114, 97, 99, 107, 101, 100]⟩] 9)
    have hsw := (Blk.new u 9 [.string ⟨#[99, 114, 97, 99, 107, 101, 100]⟩]).slr (k := 1) (n := 1) rfl
    have := c_ltexts B5 1 d5 [rb] (some ⟨u.heap.size, 0, none⟩) 1 1 [⟨#[99, 114, 97, 99, 107, 101, 100]⟩] _ (by omega) (by omega) (S5.out.2 _ (bthen (bthen (bthen (bthen (bthen (bthen (bthen E6.out E7.out) E8.out) HY.out) HU9.out) E10.out) H27.out) (bthen h hb))) hsw
    rw [show txB [rb] [⟨#[99, 114, 97, 99, 107, 101, 100]⟩] = true by decide +kernel] at this
    exact this.mono fun e w' hh => ⟨hh.1, bthen hb hh.2⟩
  have hTH : ∀ u : World, Below uZ.heap.size uZ u → Calls Tryz.prog 41 #[.slice B6 3 d6, .slice (some ⟨u.heap.size, 0, none⟩) 3 3] (u.alloc (.cells #[.string ⟨#[119, 104, 111, 108, 101]⟩, .string ⟨#[115, 116, 97, 105, 110, 101, 100]⟩, .string ⟨#[99, 114, 97, 99, 107, 101, 100]⟩] 9)) fun e w' => e = .returned (.bool true) ∧ Below u.heap.size u w' := fun u h => by
    have hb := balloc (Below.refl u.heap.size u) (.cells #[.string ⟨#[119, 104, 111, 108, 101]⟩, .string ⟨#[115, 116, 97, 105, 110, 101, 100]⟩, .string ⟨#[99, 114, 97, 99, 107, 101, 100]⟩] 9)
    have hsw := (Blk.new u 9 [.string ⟨#[119, 104, 111, 108, 101]⟩, .string ⟨#[115, 116, 97, 105, 110, 101, 100]⟩, .string ⟨#[99, 114, 97, 99, 107, 101, 100]⟩]).slr (k := 1) (n := 3) rfl
    have := c_ltexts B6 3 d6 [ra, rs, rb] (some ⟨u.heap.size, 0, none⟩) 3 3 [⟨#[119, 104, 111, 108, 101]⟩, ⟨#[115, 116, 97, 105, 110, 101, 100]⟩, ⟨#[99, 114, 97, 99, 107, 101, 100]⟩] _ (by omega) (by omega) (S6.out.2 _ (bthen (bthen (bthen (bthen (bthen (bthen E7.out E8.out) HY.out) HU9.out) E10.out) H27.out) (bthen h hb))) hsw
    rw [show txB [ra, rs, rb] [⟨#[119, 104, 111, 108, 101]⟩, ⟨#[115, 116, 97, 105, 110, 101, 100]⟩, ⟨#[99, 114, 97, 99, 107, 101, 100]⟩] = true by decide +kernel] at this
    exact this.mono fun e w' hh => ⟨hh.1, bthen hb hh.2⟩
  go_upto_region 22 with (go_at_call 41; first | (with_reducible refine (hTA _ (Below.refl _ _)).mono ?_; rintro e t1 ⟨rfl, hb⟩; have HQ1 := hide hb; clear hb hTA) | (with_reducible refine (hTB _ HQ1.out).mono ?_; rintro e t2 ⟨rfl, hb⟩; have HQ2 := hide (bthen HQ1.out hb); clear hb hTB) | (with_reducible refine (hTC _ HQ2.out).mono ?_; rintro e t3 ⟨rfl, hb⟩; have HQ3 := hide (bthen HQ2.out hb); clear hb hTC) | (with_reducible refine (hTH _ HQ3.out).mono ?_; rintro e t4 ⟨rfl, hb⟩; have HQ4 := hide (bthen HQ3.out hb); clear hb hTH))
  have hW := bthen HZ.out HQ4.out
  have HVb : ∀ x : BW t4, Calls Tryz.prog 16 #[.agg #[.int .i64 2, .slice B4 3 d4]] x.val fun e w' => e = .returned (.bool true) ∧ Below x.val.heap.size x.val w' := fun x => by
    have hx := bthen (bthen (bthen (bthen (bthen (bthen (bthen (bthen E5.out E6.out) E7.out) E8.out) HY.out) HU9.out) E10.out) H27.out) (bthen HQ4.out x.ok)
    have := c_pValid 2 B4 3 d4 [ra, rs, rb] x.val ((H8.out.to (bthen HB8.out (bthen (bthen (bthen HY.out HU9.out) E10.out) H27.out))).to (bthen HQ4.out x.ok)).rl (G15.out x.val hx).2 (by omega)
    rw [ex_vb] at this
    exact this
  have HVn : ∀ x : BW t4, Calls Tryz.prog 16 #[.agg #[.int .i64 (-1), .slice none 0 0]] x.val fun e w' => e = .returned (.bool false) ∧ Below x.val.heap.size x.val w' := fun x => by
    have := c_pValid (-1) none 0 0 [] x.val ((H8.out.to (bthen HB8.out (bthen (bthen (bthen HY.out HU9.out) E10.out) H27.out))).to (bthen HQ4.out x.ok)).rl SlR.nil (by omega)
    rw [ex_vn] at this
    exact this
  have HSa : ∀ x : BW t4, Calls Tryz.prog 30 #[.agg #[.int .i64 2, .slice B4 3 d4], .agg #[.int .i64 2, .slice B4 3 d4]] x.val fun e w' => e = .returned (.bool true) ∧ Below x.val.heap.size x.val w' := fun x => by
    have hx := bthen (bthen (bthen (bthen (bthen (bthen (bthen (bthen E5.out E6.out) E7.out) E8.out) HY.out) HU9.out) E10.out) H27.out) (bthen HQ4.out x.ok)
    have := c_pSame 2 B4 3 d4 [ra, rs, rb] 2 B4 3 d4 [ra, rs, rb] x.val (by omega) (by omega) (G15.out x.val hx).2 (G15.out x.val hx).2
    rw [show (decide ((2 : Int) = 2) && decide ([ra, rs, rb] = [ra, rs, rb])) = true by decide +kernel] at this
    exact this
  have HSb : ∀ x : BW t4, Calls Tryz.prog 30 #[.agg #[.int .i64 2, .slice B4 3 d4], .agg #[.int .i64 2, .slice A8 2 c8]] x.val fun e w' => e = .returned (.bool false) ∧ Below x.val.heap.size x.val w' := fun x => by
    have hx := bthen (bthen (bthen (bthen (bthen (bthen (bthen (bthen E5.out E6.out) E7.out) E8.out) HY.out) HU9.out) E10.out) H27.out) (bthen HQ4.out x.ok)
    have := c_pSame 2 B4 3 d4 [ra, rs, rb] 2 A8 2 c8 [ra, rs] x.val (by omega) (by omega) (G15.out x.val hx).2 ((H8.out.to (bthen HB8.out (bthen (bthen (bthen HY.out HU9.out) E10.out) H27.out))).to (bthen HQ4.out x.ok)).s1.1
    rw [show (decide ((2 : Int) = 2) && decide ([ra, rs, rb] = [ra, rs])) = false by decide +kernel] at this
    exact this
  have hq : ∀ w, (binOp .eql 49 (.agg #[.int .i64 5, .int .i64 1, .int .i64 200, .int .i64 2, .int .i64 1, .int .i64 1, .string ⟨#[99, 114, 97, 99, 107, 101, 100]⟩]) (.agg #[.int .i64 5, .int .i64 1, .int .i64 200, .int .i64 2, .int .i64 1, .int .i64 1, .string ⟨#[99, 114, 97, 99, 107, 101, 100]⟩])).run Tryz.prog w = .ok (.bool true) w := fun w => by
    have := eqlRc w rb rb
    rw [decide_eq_true rfl] at this
    exact this
  have k1 := fun x : BW t4 => (HG27.out.below (bthen HQ4.out x.ok) HG27.out.lt).all7.1
  have k15 := fun x : BW t4 => (G15.out x.val (bthen (bthen (bthen (bthen (bthen (bthen (bthen (bthen E5.out E6.out) E7.out) E8.out) HY.out) HU9.out) E10.out) H27.out) (bthen HQ4.out x.ok))).1.two
  have kx := fun x : BW t4 => ((H8.out.to (bthen HB8.out (bthen (bthen (bthen HY.out HU9.out) E10.out) H27.out))).to (bthen HQ4.out x.ok)).g1.two
  have km := fun x : BW t4 => HMc.out x.val (bthen (bthen (bthen HU9.out E10.out) H27.out) (bthen HQ4.out x.ok))
  have p0 := fun x : BW t4 => (k1 x).1
  have p1 := fun x : BW t4 => (k1 x).2.1
  have p2 := fun x : BW t4 => (k1 x).2.2.1
  have p3 := fun x : BW t4 => (k1 x).2.2.2.1
  have p4 := fun x : BW t4 => (k1 x).2.2.2.2.1
  have p5 := fun x : BW t4 => (k1 x).2.2.2.2.2.1
  have p6 := fun x : BW t4 => (k1 x).2.2.2.2.2.2
  have q0 := fun x : BW t4 => (km x).1
  have q1 := fun x : BW t4 => (km x).2.1
  have q2 := fun x : BW t4 => (km x).2.2.1
  have q3 := fun x : BW t4 => (km x).2.2.2.1
  have q4 := fun x : BW t4 => (km x).2.2.2.2.1
  have q5 := fun x : BW t4 => (km x).2.2.2.2.2.1
  have q6 := fun x : BW t4 => (km x).2.2.2.2.2.2
  have r0 := fun x : BW t4 => (k15 x).1
  have r1 := fun x : BW t4 => (k15 x).2
  have s0 := fun x : BW t4 => (kx x).1
  have s1 := fun x : BW t4 => (kx x).2
  clear k1 k15 kx km
  have HF := hide (((H8.out.to (bthen HB8.out (bthen (bthen (bthen HY.out HU9.out) E10.out) H27.out))).to HQ4.out).bel)
  refine wp_region_bw t4 (Below.refl _ _) (by kernel_rfl) (by kernel_rfl) ?_
  repeat (go_big_quiet_step ((first | (go_at_call 16; first | (with_reducible exact bw_call (HVb _)) | (with_reducible exact bw_call (HVn _))) | (go_at_call 30; first | (with_reducible exact bw_call (HSa _)) | (with_reducible exact bw_call (HSb _))))))
  refine wpQuiet_nil ?_
  intro W5 hb5
  go_wp2_with fail
  go_ret
  exact ⟨rfl, bthen HF.out hb5⟩
end Go.Proofs.YtcfbgelhggapjaaGreatDoor
/- Replicas in boxes: what the laws' walks share. -/
namespace Go.Proofs.YtcfbgelhggapjaaGreatDoor
open Go.RowKit Go.Shelf
/-- a replica in a box, and its row -/
structure Bx (W : World) (b : Nat) (p : Int) (A : Option Addr) (n c : Nat) (l : List Rc) : Prop where
  blk : Blk W b 25 [.int .i64 p, .slice A n c]
  slr : SlR W W.heap.size 7 A n (l.flatMap cR)
  hnc : n ≤ c
  hc : c ≤ 9223372036854775807
theorem Bx.to {W W' : World} {b : Nat} {p : Int} {A : Option Addr} {n c : Nat} {l : List Rc} (h : Bx W b p A n c l) (hb : Below W.heap.size W W') : Bx W' b p A n c l :=
  ⟨h.blk.below hb h.blk.lt, h.slr.to' hb, h.hnc, h.hc⟩
theorem Bx.cells {W : World} {b : Nat} {p : Int} {A : Option Addr} {n c : Nat} {l : List Rc} (h : Bx W b p A n c l) : W.cell? ⟨b, 0, none⟩ = some (.int .i64 p) ∧ W.cell? ⟨b, 1, none⟩ = some (.slice A n c) ∧ b < W.heap.size :=
  ⟨h.blk.all2.1, h.blk.all2.2.1, h.blk.lt⟩
/-- a new box for the answer of a call that gives a replica -/
def BxCut (p : Int) (m : List Rc) (n : Nat) (W0 : World) (v u : Value) (W : World) : Prop :=
  ∃ b A c, v = .pointer (some ⟨b, 0, none⟩) ∧ u = .int .i64 0 ∧ W0.heap.size ≤ b ∧ Bx W b p A n c m ∧ Below W0.heap.size W0 W
theorem BxCut.late {p : Int} {m : List Rc} {n : Nat} {W0 W : World} {A : Option Addr} {c : Nat} (hb : Below W0.heap.size W0 W) {lo : Nat} (hs : SlN W lo 7 A n (m.flatMap cR)) (h1 : n ≤ c) (h2 : c ≤ 9223372036854775807) :
    BxCut p m n W0 (.pointer (some ⟨W.heap.size, 0, none⟩)) (.int .i64 0) (W.alloc (.cells #[.int .i64 p, .slice A n c] 25)) :=
  ⟨_, A, c, rfl, rfl, hb.size, ⟨Blk.new W 25 [.int .i64 p, .slice A n c], hs.1.to' (balloc (Below.refl _ _) _), h1, h2⟩, balloc hb _⟩
theorem BxCut.early {p : Int} {m : List Rc} {n : Nat} {W0 W : World} {A : Option Addr} {c : Nat} (hb : Below (W0.alloc (.cells #[.int .i64 0, .slice none 0 0] 25)).heap.size (W0.alloc (.cells #[.int .i64 0, .slice none 0 0] 25)).drew W) (hs : SlN W (W0.heap.size + 1) 7 A n (m.flatMap cR)) (h1 : n ≤ c) (h2 : c ≤ 9223372036854775807) :
    BxCut p m n W0 (.pointer (some ⟨W0.heap.size, 0, none⟩)) (.int .i64 0) ((W.setCell ⟨W0.heap.size, 0, none⟩ (.int .i64 p)).setCell ⟨W0.heap.size, 1, none⟩ (.slice A n c)) := by
  have hg := ((Blk.new W0 25 [.int .i64 0, .slice none 0 0]).drew).below hb (by simp)
  have hb0 : Below W0.heap.size W0 W := bthen (bdrew (balloc (Below.refl _ _) _)) hb
  have hs' := (hs.set ⟨W0.heap.size, 0, none⟩ (Nat.lt_succ_self _) (.int .i64 p)).set ⟨W0.heap.size, 1, none⟩ (Nat.lt_succ_self _) (.slice A n c)
  exact ⟨_, A, c, rfl, rfl, Nat.le_refl _, ⟨(hg.set 0 (.int .i64 p)).set 1 (.slice A n c), hs'.1, h1, h2⟩, bset (p := ⟨W0.heap.size, 1, none⟩) (bset (p := ⟨W0.heap.size, 0, none⟩) hb0 (Nat.le_refl _) _) (Nat.le_refl _) _⟩
/-- the three replicas in one block -/
theorem RpT.bx {W : World} {lo g : Nat} {L : List (List Rc)} (h : RpT W lo g L) {k : Nat} (hk : k < 3) {l : List Rc} (hl : L[k]! = l) {n : Nat} (hn : l.length = n) : ∃ A c, n ≤ c ∧ c ≤ 9223372036854775807 ∧
    ∀ W', Below W.heap.size W W' → W'.cell? ⟨g, k * 2, none⟩ = some (.int .i64 k) ∧ W'.cell? ⟨g, k * 2 + 1, none⟩ = some (.slice A n c) ∧ g < W'.heap.size ∧ SlR W' W'.heap.size 7 A n (l.flatMap cR) := by
  subst hl hn
  obtain ⟨A, c, h1, h2, h3, h4⟩ := h.get hk
  exact ⟨A, c, h1, h2, fun W' hb => ⟨(h4 W' hb).1, (h4 W' hb).2.1, Nat.lt_of_lt_of_le h.lt hb.size, h3.1.to' hb⟩⟩
end Go.Proofs.YtcfbgelhggapjaaGreatDoor
/- Plain words for the laws: lists inside one collection agree; what a further record changes. No program here. -/
namespace Go.Proofs.YtcfbgelhggapjaaGreatDoor
/-- a valid list all of whose records lie in G -/
structure InG (G l : List Rc) : Prop where
  vl : VL l
  sub : ∀ r ∈ l, r ∈ G
theorem InG.len {G l : List Rc} (h : InG G l) : l.length ≤ G.length := nd_len _ G (nd_of_key h.vl.nd) h.sub
theorem InG.vr {G l : List Rc} (h : InG G l) (hg : G.length ≤ 150) {p : Int} (h0 : 0 ≤ p) (h1 : p ≤ 39) : vrB p l = true :=
  vr_iff.2 ⟨⟨h0, h1⟩, by have := h.len; omega, h.vl⟩
theorem vl_same {a b : List Rc} (ha : VL a) (hb : VL b) (h : ∀ r, r ∈ a ↔ r ∈ b) : a = b :=
  sort_uniq (fun _ _ => ls_asym) ha.srt hb.srt h
/-- what a merge comes to inside one collection -/
structure Mgd (G a b m : List Rc) : Prop where
  inn : InG G m
  mem : ∀ r, r ∈ m ↔ r ∈ a ∨ r ∈ b
  len : m.length = a.length + (newL a b).length
theorem merges {G a b : List Rc} (hn : (G.map keyR).Nodup) (hg : G.length ≤ 150) (ha : InG G a) (hb : InG G b) {p q : Int} (hp : 0 ≤ p ∧ p ≤ 39) (hq : 0 ≤ q ∧ q ≤ 39) :
    mrgM p a q b = some (mgL a b) ∧ behM p a q b = some (newL a b) ∧ Mgd G a b (mgL a b) := by
  have hc : conB a b = false := (con_iff ha.vl.nd).2 fun x hx y hy e => key_eq hn (ha.sub x hx) (hb.sub y hy) e
  obtain ⟨s1, s2, s3, s4⟩ := mg_spec ha.vl hb.vl hc
  have hi : InG G (mgL a b) := ⟨s4, fun r hr => by
    rcases (s2 r).1 hr with h | h
    · exact ha.sub r h
    · exact hb.sub r h⟩
  have hl := hi.len
  have hok : mgOk p a q b = true := mgOk_iff.2 ⟨ha.vr hg hp.1 hp.2, hb.vr hg hq.1 hq.2, hc, by omega⟩
  unfold mrgM behM
  rw [if_pos hok, if_pos hok]
  exact ⟨rfl, rfl, hi, s2, s3⟩
/-! ### a further record -/
theorem vl_put {l : List Rc} {x : Rc} (h : VL l) (hf : fmB x = true) (hn : x.num = (cntP x.pen l : Int) + 1) (ha : ∀ r ∈ l, r.pen = x.pen → r.at_ ≤ x.at_) (ht : rootB x = true ∨ ∃ o ∈ l, keyR o = tgt x ∧ bfB o x = true) : VL (putL l x) := by
  have hk : ∀ y ∈ l, keyR y ≠ keyR x := fun y hy e => h.free x.pen y hy (by rw [e]; show (x.pen, x.num) = _; rw [hn])
  refine ⟨srt_putL h.srt hk, fun r hr => ?_, fun r hr h1 => ?_, fun r hr s hs hp hns => ?_, fun r hr => ?_⟩
  · rcases mem_putL.1 hr with rfl | hr
    · exact hf
    · exact h.fm r hr
  · rcases mem_putL.1 hr with rfl | hr
    · obtain ⟨s, hs, e1, e2⟩ := (h.nums r.pen (r.num - 1)).2 ⟨by omega, by omega⟩
      exact ⟨s, mem_putL.2 (.inr hs), e1, e2⟩
    · obtain ⟨s, hs, e⟩ := h.down r hr h1
      exact ⟨s, mem_putL.2 (.inr hs), e⟩
  · rcases mem_putL.1 hr with e1 | g1 <;> rcases mem_putL.1 hs with e2 | g2
    · rw [e1, e2]; exact Int.le_refl _
    · subst e1
      have := (h.nums r.pen s.num).1 ⟨s, g2, hp.symm, rfl⟩
      omega
    · subst e2; exact ha r g1 hp
    · exact h.mono r g1 s g2 hp hns
  · rcases mem_putL.1 hr with rfl | hr
    · rcases ht with ht | ⟨o, ho, e⟩
      · exact .inl ht
      · exact .inr ⟨o, mem_putL.2 (.inr ho), e⟩
    · rcases h.snd r hr with g | ⟨o, ho, e⟩
      · exact .inl g
      · exact .inr ⟨o, mem_putL.2 (.inr ho), e⟩
theorem cnt_le (p : Int) (l : List Rc) : cntP p l ≤ l.length := List.countP_le_length
theorem adds {p : Int} {l : List Rc} {x : Rc} (hp : 0 ≤ p ∧ p ≤ 39) (h : VL l) (hl : l.length < 150) (h1 : 0 ≤ x.at_ ∧ x.at_ ≤ 1000000) (h2 : 0 ≤ x.kind ∧ x.kind ≤ 15) (h3 : x.text.size ≤ 4000)
    (ha : ∀ r ∈ l, r.pen = p → r.at_ ≤ x.at_) (ht : (x.of = -1 ∧ x.which = 0) ∨ ∃ o ∈ l, keyR o = (x.of, x.which) ∧ o.at_ < x.at_) :
    addM p l x = some (putL l (newx p l x)) ∧ VL (putL l (newx p l x)) := by
  have hc := cnt_le p l
  have hroot : (x.of = -1 ∧ x.which = 0) → rootB (newx p l x) = true := fun h => by
    show (decide (x.of = -1) && decide (x.which = 0)) = true
    simp [h.1, h.2]
  have hf : fmB (newx p l x) = true := by
    have hb : rootB (newx p l x) = true ∨ (0 ≤ x.of ∧ x.of ≤ 39 ∧ 1 ≤ x.which ∧ x.which ≤ 150 ∧ ¬ (x.of = p ∧ x.which = (cntP p l : Int) + 1)) := by
      rcases ht with ht | ⟨o, ho, e, _⟩
      · exact .inl (hroot ht)
      · right
        have hfo := fm_num (h.fm o ho)
        have e1 : o.pen = x.of := congrArg Prod.fst e
        have e2 : o.num = x.which := congrArg Prod.snd e
        refine ⟨by omega, by omega, by omega, by omega, fun hh => h.free p o ho ?_⟩
        rw [e, hh.1, hh.2]
    show (inB p 0 39 && (inB ((cntP p l : Int) + 1) 1 150 && (inB x.at_ 0 1000000 && (inB x.kind 0 15 && (decide (x.text.size ≤ 4000) && (rootB (newx p l x) || (inB x.of 0 39 && (inB x.which 1 150 && !(decide (x.of = p) && decide (x.which = (cntP p l : Int) + 1)))))))))) = true
    rcases hb with hb | hb
    · rw [hb]; simp [inB]; omega
    · simp [inB]; omega
  have hv : VL (putL l (newx p l x)) := vl_put h hf rfl ha (by
    rcases ht with ht | ⟨o, ho, e, hlt⟩
    · exact .inl (hroot ht)
    · exact .inr ⟨o, ho, e, bf_iff.2 (.inl hlt)⟩)
  unfold addM
  rw [if_pos (vr_iff.2 ⟨hp, by omega, h⟩), if_pos (vr_iff.2 ⟨hp, by rw [len_putL]; omega, hv⟩)]
  exact ⟨rfl, hv⟩
theorem put_in {G l : List Rc} {x : Rc} (h : InG G l) (hv : VL (putL l x)) : InG (x :: G) (putL l x) :=
  ⟨hv, fun r hr => by
    rcases mem_putL.1 hr with rfl | hr
    · exact .head _
    · exact .tail _ (h.sub r hr)⟩
theorem InG.more {G l : List Rc} (h : InG G l) (x : Rc) : InG (x :: G) l := ⟨h.vl, fun r hr => .tail _ (h.sub r hr)⟩
/-! ### roots in a greater list -/
theorem root_more {l m : List Rc} (hl : VL l) (hm : VL m) (hs : ∀ r ∈ l, r ∈ m) : ∀ (n : Nat) (r : Rc), r ∈ l → rank l r ≤ n → rootR m r = rootR l r := by
  intro n
  induction n with
  | zero =>
    intro r hr hk
    cases hn : rootB r with
    | true => rw [root_self hn, root_self hn]
    | false =>
      obtain ⟨o, ho, _, _, h2⟩ := hl.tgt hr hn
      have := rank_lt ho h2
      omega
  | succ n ih =>
    intro r hr hk
    cases hn : rootB r with
    | true => rw [root_self hn, root_self hn]
    | false =>
      obtain ⟨o, ho, h0, h1, h2⟩ := hl.tgt hr hn
      have := rank_lt ho h2
      rw [root_step hl hr hn h0, root_step hm (hs r hr) hn ((fd_iff hm.nd).2 ⟨hs o ho, h1⟩)]
      exact ih o ho (by omega)
theorem root_sub {l m : List Rc} (hl : VL l) (hm : VL m) (hs : ∀ r ∈ l, r ∈ m) {r : Rc} (hr : r ∈ l) : rootR m r = rootR l r := root_more hl hm hs _ r hr (Nat.le_refl _)
/-- what is greatest stands last -/
theorem last_of {lt : Rc → Rc → Bool} (asy : ∀ a b, lt a b = true → lt b a = false) {s : List Rc} {x : Rc} (hs : s.Pairwise (fun a b => lt a b = true)) (hx : x ∈ s) (hg : ∀ y ∈ s, y ≠ x → lt y x = true) : ∃ t, s = t ++ [x] := by
  obtain ⟨t, u, rfl⟩ := List.append_of_mem hx
  cases u with
  | nil => exact ⟨t, rfl⟩
  | cons y u =>
    exfalso
    rw [List.pairwise_append, List.pairwise_cons] at hs
    have h1 := hs.2.1.1 y (.head _)
    have h2 := hg y (List.mem_append_right _ (.tail _ (.head _))) (fun e => by subst e; have := asy _ _ h1; rw [h1] at this; cases this)
    rw [asy _ _ h1] at h2; cases h2
theorem ord_put {l : List Rc} {x : Rc} (h : VL (putL l x)) (hl : VL l) (hg : ∀ y ∈ l, bfB y x = true) : ordL (putL l x) = ordL l ++ [x] := by
  symm
  refine ord_uniq h.nd ?_ (fun r => by rw [List.mem_append, mem_ord, List.mem_singleton, mem_putL]; exact or_comm)
  rw [List.pairwise_append]
  refine ⟨ord_srt hl.nd, List.pairwise_singleton _ _, fun a ha b hb => ?_⟩
  rw [List.mem_singleton] at hb
  subst hb
  exact hg a (mem_ord.1 ha)
theorem fam_put {l : List Rc} {x : Rc} (h : VL (putL l x)) (hl : VL l) (hg : ∀ y ∈ l, bfB y x = true) (k : I2) : famL (putL l x) k = famL l k ++ (if keyR (rootR (putL l x) x) = k then [x] else []) := by
  unfold famL
  rw [ord_put h hl hg, List.filter_append]
  congr 1
  · refine List.filter_congr fun r hr => ?_
    rw [root_sub hl h (fun r hr => mem_putL.2 (.inr hr)) (mem_ord.1 hr)]
  · by_cases e : keyR (rootR (putL l x) x) = k <;> simp [e]
end Go.Proofs.YtcfbgelhggapjaaGreatDoor
/- Reading the arguments, and that they read afterwards as before. -/
namespace Go.Proofs.YtcfbgelhggapjaaGreatDoor
open Go.ChangeShapes Go.WideShapes Go.ChangeAt Go.RowKit Go.Deep
theorem Tryz.own : ownKnob Tryz.prog.godebug = none := by kernel_rfl
theorem Tryz.laidOut : laidOutB Tryz.prog = true := by kernel_rfl
theorem Tryz.cells26 : Tryz.prog.cellsOf 26 = 4 := by kernel_rfl
theorem Tryz.cells3 : Tryz.prog.cellsOf 3 = 1 := by kernel_rfl
theorem pick_list {α : Type} {R : Nat → α → Prop} : ∀ n, (∀ i, i < n → ∃ s, R i s) → ∃ l : List α, l.length = n ∧ ∀ i (h : i < l.length), R i l[i]
  | 0, _ => ⟨[], rfl, fun i h => absurd h (by simp)⟩
  | n + 1, h => by
    obtain ⟨l, hl, hr⟩ := pick_list n (fun i hi => h i (by omega))
    obtain ⟨s, hs⟩ := h n (by omega)
    refine ⟨l ++ [s], by simp [hl], fun i hi => ?_⟩
    by_cases h1 : i < l.length
    · rw [List.getElem_append_left h1]; exact hr i h1
    · have : i = n := by simp at hi; omega
      subst this
      rw [List.getElem_append_right (by omega)]
      simpa [hl] using hs
theorem slr_of {α : Type} {w : World} {b off B k : Nat} (enc : α → List Value) (hk : 0 < k) (hm : ∀ a, (enc a).length = k) (x : List α) (hb : b < B)
    (h : ∀ i (hi : i < x.length) j, j < k → w.cell? ⟨b, off + (i * k + j), none⟩ = (enc x[i])[j]?) : SlR w B k (some ⟨b, off, none⟩) x.length (x.flatMap enc) := by
  refine ⟨flat_len enc k hm x, fun _ => ⟨b, off, rfl, hb, fun j u hu => ?_⟩⟩
  have hj : j < (x.flatMap enc).length := (List.getElem?_eq_some_iff.1 hu).1
  rw [flat_len enc k hm] at hj
  have h1 : j / k < x.length := Nat.div_lt_of_lt_mul (by rw [Nat.mul_comm]; exact hj)
  have h2 : j % k < k := Nat.mod_lt _ hk
  have e : j / k * k + j % k = j := by rw [Nat.mul_comm]; exact Nat.div_add_mod j k
  have g := flat_get enc k hm x (j / k) h1 (j % k) h2
  have c := h (j / k) h1 (j % k) h2
  rw [e] at g c
  rw [c, ← g, hu]
theorem below_all {H : Type} {enc : TypeId × Value → H} {W W' : World} (hb : Below W.heap.size W W') : ∀ {ts : List TypeId} {vs : List Value} {ds : List (DataW H)} {ps : List MemPlace},
    (∀ t ∈ ts, Tryz.prog.readableRec t = true ∧ t < Tryz.prog.types.size) → DataW.TrodAll enc Tryz.prog W 0 (fun _ => true) true ts vs ds ps → DataW.TrodAll enc Tryz.prog W' 0 (fun b => decide (b < W.heap.size)) true ts vs ds ps
  | [], _, _, _, _, h => by
    obtain ⟨rfl, rfl, rfl⟩ := trodAll_nil h
    exact trodAll_mk0
  | t :: ts, _, _, _, hts, h => by
    have hlt := h.lt
    obtain ⟨v, vs, d, ds, p, q, rfl, rfl, rfl, h1, h2⟩ := trodAll_cons h
    have k1 := Below.trod Tryz.laidOut (hts t (by simp)).1 (hts t (by simp)).2 h1 hb (fun x hx => hlt x (List.mem_append_left _ hx))
    exact ⟨p, q, k1, below_all hb (fun t ht => hts t (List.mem_cons_of_mem _ ht)) h2, rfl⟩
theorem wf_of {n : Int} (h : (Lit.int .i64 n).wf = true) : -9223372036854775808 ≤ n ∧ n ≤ 9223372036854775807 := by
  have h1 : IntKind.i64.min = -9223372036854775808 := by decide
  have h2 : IntKind.i64.max = 9223372036854775807 := by decide
  simp only [Lit.wf, Bool.and_eq_true, decide_eq_true_eq, h1, h2] at h
  exact h
theorem gRoot : Tryz.prog.globalNamed "slatewall/replica.rootless" = some 0 := by kernel_rfl
theorem gRootType : (Tryz.prog.globals[0]?).map (·.type) = some 70 := by kernel_rfl
set_option maxRecDepth 100000 in
/-- what the row's list gives: the variable's two cells -/
theorem rl_of {W : World} (h : laidMetH Tryz.prog [("slatewall/replica.rootless", Rows.laid_slatewall_replica_rootless)] W) : RL W := by
  rw [MakeChecks.laidMetH_plain _ _ _ (by kernel_rfl)] at h
  obtain ⟨ps, ⟨g', t', cs, fuel, p, q, hg', ht', hvar, hd, _, _⟩, _⟩ := h
  obtain rfl := Option.some.inj (gRoot.symm.trans hg')
  obtain rfl := Option.some.inj (gRootType.symm.trans ht')
  obtain ⟨y0, y1, n, hx, hl, h0, h1⟩ := trod_struct2 Tryz.underlying70 hd
  simp only [Rows.laid_slatewall_replica_rootless, Prod.mk.injEq, DataW.agg.injEq, List.cons.injEq, and_true] at hx
  have hlc : cs.toList.length = 2 := hl.trans (show Tryz.prog.cellsOf 70 = 2 by kernel_rfl)
  obtain ⟨cl⟩ := cs
  match cl, hlc with
  | [u0, u1], _ =>
    rw [Tryz.cells3] at h0 h1
    simp only [List.drop_zero, List.drop_succ_cons, List.take_succ_cons, List.take_zero] at h0 h1
    obtain ⟨n0, e0, f0, _⟩ := DataW.trod_int Tryz.underlying3 h0
    obtain ⟨n1, e1, f1, _⟩ := DataW.trod_int Tryz.underlying3 h1
    have c0 := World.var?_cell hg' hvar 0
    have c1 := World.var?_cell hg' hvar 1
    subst f0 f1
    simp at e0 e1 hx
    obtain ⟨⟨a0, a1⟩, _⟩ := hx
    subst a0 a1 e0 e1
    exact ⟨by simpa using c0, by simpa using c1⟩
/-- a world for the witnesses: the settled one, the variable (block 0) holding what its initialiser lays -/
noncomputable def laidWorld (os : Os) : World :=
  { World.holding Tryz.prog os ⟨#[], #[], []⟩ with heap := (World.holding Tryz.prog os ⟨#[], #[], []⟩).heap.modify 0 fun
      | .cells _ t frozen => .cells #[.int .i64 (-1), .int .i64 0] t frozen
      | o => o }
set_option maxRecDepth 100000 in
theorem laid_met (os : Os) (args : Array Value) : laidMet Tryz.prog [("slatewall/replica.rootless", Rows.laid_slatewall_replica_rootless)] ((laidWorld os).forCall (fun _ _ => 0) ⟨#[], args, []⟩).memory :=
  laidMet_of_run' 8 (by kernel_rfl) (by kernel_rfl)
section
variable {H : Type} {enc : TypeId × Value → H} {W : World} {base : Nat}
set_option maxRecDepth 100000 in
theorem open_sl4 {v : Value} {d : DataW H} {ps : List MemPlace} (hval : Value.okWide Tryz.prog W .any base 22 v) (h : DataW.Trod enc Tryz.prog W 0 (fun _ => true) true 22 v d ps) :
    ∃ (A : Option Addr) (x : List I4) (c : Nat), v = .slice A x.length c ∧ x.length ≤ c ∧ c ≤ 9223372036854775807 ∧ (∀ s ∈ x, ok4 s) ∧ SlR W W.heap.size 4 A x.length (x.flatMap c4) := by
  obtain ⟨a, len, cap, rfl⟩ := okWide_slice Tryz.underlying22 hval
  obtain ⟨fuel, hf⟩ := h
  rcases open_slice Tryz.underlying22 hf with ⟨h0, _⟩ | ⟨a', len', cap', m, n, D, Pl, hcs, _, hl, hm, hmm, hx, hi⟩
  · simp [Value.cells] at h0
    obtain ⟨rfl, rfl, rfl⟩ := h0
    exact ⟨none, [], 0, rfl, by simp, by omega, by simp, SlR.nil⟩
  · simp [Value.cells] at hcs
    obtain ⟨rfl, rfl, rfl⟩ := hcs
    simp only [if_true] at hmm
    subst hmm
    rw [Tryz.cells26] at hi
    have key : ∀ i, i < len → ∃ s : I4, (ok4 s) ∧ W.cell? (a'.add (i * 4)) = some (.int .i64 s.1) ∧ W.cell? ((a'.add (i * 4)).add 1) = some (.int .i64 s.2.1) ∧ W.cell? ((a'.add (i * 4)).add 2) = some (.int .i64 s.2.2.1) ∧ W.cell? ((a'.add (i * 4)).add 3) = some (.int .i64 s.2.2.2) := by
      intro i hil
      obtain ⟨cs', hc, ht'⟩ := hi i (by omega)
      obtain ⟨_, hcl, hat⟩ := World.cells?_some hc
      obtain ⟨xs, m', _, _, _, hxl, hel⟩ := DataW.trod_array Tryz.underlying26 ht'
      match cs', hcl with
      | [u0, u1, u2, u3], _ =>
        have e0 := hel 0 (by omega)
        have e1 := hel 1 (by omega)
        have e2 := hel 2 (by omega)
        have e3 := hel 3 (by omega)
        rw [Tryz.cells3] at e0 e1 e2 e3
        simp only [Nat.mul_one, List.drop_zero, List.drop_succ_cons, List.take_succ_cons, List.take_zero] at e0 e1 e2 e3
        rw [List.getElem?_eq_getElem (by omega)] at e0 e1 e2 e3
        obtain ⟨n0, h0, _, w0⟩ := DataW.trod_int Tryz.underlying3 e0
        obtain ⟨n1, h1, _, w1⟩ := DataW.trod_int Tryz.underlying3 e1
        obtain ⟨n2, h2, _, w2⟩ := DataW.trod_int Tryz.underlying3 e2
        obtain ⟨n3, h3, _, w3⟩ := DataW.trod_int Tryz.underlying3 e3
        simp at h0 h1 h2 h3
        subst h0; subst h1; subst h2; subst h3
        refine ⟨(n0, n1, n2, n3), ⟨wf_of w0, wf_of w1, wf_of w2, wf_of w3⟩, ?_, ?_, ?_, ?_⟩
        · have := hat 0 (by omega); simpa [Addr.add] using this
        · have := hat 1 (by omega); simpa using this
        · have := hat 2 (by omega); simpa using this
        · have := hat 3 (by omega); simpa using this
    obtain ⟨x, hxl, hxk⟩ := pick_list len key
    subst hxl
    refine ⟨some a', x, _, rfl, hl, by simpa [maxLen] using hm, fun s hs => ?_, ?_⟩
    · obtain ⟨i, hi', rfl⟩ := List.getElem_of_mem hs
      exact (hxk i hi').1
    · rcases Nat.eq_zero_or_pos x.length with h0 | h0
      · have : x = [] := List.eq_nil_of_length_eq_zero h0
        subst this
        exact SlR.nil
      · obtain ⟨b, off, spot⟩ := a'
        have c0 := (hxk 0 h0).2.1
        have hbl := World.block_lt_of_cell? W _ c0
        simp only [Nat.zero_mul, Addr.add, if_true] at c0 hbl
        have hsp : spot = none := by
          unfold World.cell? at c0
          cases spot with
          | none => rfl
          | some s => split at c0 <;> simp at c0
        subst hsp
        refine slr_of c4 (by omega) (fun _ => rfl) x hbl fun i hi' j hj => ?_
        obtain ⟨_, k0, k1, k2, k3⟩ := hxk i hi'
        have ea : (⟨b, off, none⟩ : Addr).add (i * 4) = ⟨b, off + i * 4, none⟩ := by unfold Addr.add; split <;> simp_all
        rw [ea] at k0 k1 k2 k3
        match j, hj with
        | 0, _ => simpa [c4] using k0
        | 1, _ => simpa [c4, Addr.add, Nat.add_assoc] using k1
        | 2, _ => simpa [c4, Addr.add, Nat.add_assoc] using k2
        | 3, _ => simpa [c4, Addr.add, Nat.add_assoc] using k3
end
end Go.Proofs.YtcfbgelhggapjaaGreatDoor
