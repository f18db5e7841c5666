/- Replica: the reference's Made. -/
import Derived.Test.YtcfbgelhggapjaaGreatDoorQ13
namespace Go.Proofs.YtcfbgelhggapjaaGreatDoor
open Go.RowKit Go.Shelf
/-- what lies in memory at the head of a round of Made -/
def MadeMem (w : World) (L : List (List Rc)) (W : World) : Prop :=
  RpT W (w.heap.size + 1) w.heap.size L ∧ Blk W (w.heap.size + 1) 9 [.string wdL[0]!, .string wdL[1]!, .string wdL[2]!, .string wdL[3]!, .string wdL[4]!] ∧ Below w.heap.size w W
theorem Blk.allR' {w : World} {g : Nat} {t : TypeId} {x0 x1 x2 x3 x4 x5 x6 : Value} (h : Blk w g t [x0, x1, x2, x3, x4, x5, x6]) : w.cell? ⟨g, 0, none⟩ = some x0 ∧ w.cell? ⟨g, 1, none⟩ = some x1 ∧ w.cell? ⟨g, 2, none⟩ = some x2 ∧
    w.cell? ⟨g, 3, none⟩ = some x3 ∧ w.cell? ⟨g, 4, none⟩ = some x4 ∧ w.cell? ⟨g, 5, none⟩ = some x5 ∧ w.cell? ⟨g, 6, none⟩ = some x6 :=
  ⟨h.cell 0, h.cell 1, h.cell 2, h.cell 3, h.cell 4, h.cell 5, h.cell 6⟩
theorem Blk.fr7 {w : World} {g : Nat} {t : TypeId} {cs : List Value} (h : Blk w g t cs) : w.frozen? ⟨g, 0, none⟩ = false ∧ w.frozen? ⟨g, 1, none⟩ = false ∧ w.frozen? ⟨g, 2, none⟩ = false ∧ w.frozen? ⟨g, 3, none⟩ = false ∧ w.frozen? ⟨g, 4, none⟩ = false ∧ w.frozen? ⟨g, 5, none⟩ = false ∧ w.frozen? ⟨g, 6, none⟩ = false :=
  ⟨h.free 0, h.free 1, h.free 2, h.free 3, h.free 4, h.free 5, h.free 6⟩
theorem i64w {x : Int} (h1 : -9223372036854775808 ≤ x) (h2 : x ≤ 9223372036854775807) : IntKind.i64.wrap x = x := by
  simp [IntKind.wrap, IntKind.bits, IntKind.signed]; omega
theorem made_some {w w1 w6 : World} {L : List (List Rc)} {k3 : Nat} (hk3 : k3 < 3) (hL : L.length = 3) (hT : RpT w1 (w.heap.size + 1) w.heap.size L) (hWd : Blk w1 (w.heap.size + 1) 9 [.string wdL[0]!, .string wdL[1]!, .string wdL[2]!, .string wdL[3]!, .string wdL[4]!]) (hb : Below w.heap.size w w1) (hb6 : Below w1.heap.size w1 w6)
    {m : List Rc} {A : Option Addr} {c : Nat} (h1 : m.length ≤ c) (h2 : c ≤ 9223372036854775807) (h3 : SlN w6 (w.heap.size + 1) 7 A m.length (m.flatMap cR)) :
    MadeMem w (L.set k3 m) ((w6.setCell ⟨w.heap.size, k3 * 2, none⟩ (.int .i64 k3)).setCell ⟨w.heap.size, k3 * 2 + 1, none⟩ (.slice A m.length c)) :=
  ⟨(hT.to hb6).set (by omega) hL hk3 h1 h2 h3, ((hWd.below hb6 hWd.lt).other (by simp) _).other (by simp) _, bset (bset (bthen hb hb6) (by simp) _) (by simp) _⟩
theorem made_none {w w1 w6 : World} {L : List (List Rc)} (hT : RpT w1 (w.heap.size + 1) w.heap.size L) (hWd : Blk w1 (w.heap.size + 1) 9 [.string wdL[0]!, .string wdL[1]!, .string wdL[2]!, .string wdL[3]!, .string wdL[4]!]) (hb : Below w.heap.size w w1) (hb6 : Below w1.heap.size w1 w6) : MadeMem w L w6 :=
  ⟨hT.to hb6, hWd.below hb6 hWd.lt, bthen hb hb6⟩
theorem wd_at {W : World} {g : Nat} (h : Blk W g 9 [.string wdL[0]!, .string wdL[1]!, .string wdL[2]!, .string wdL[3]!, .string wdL[4]!]) {j : Nat} (hj : j < 5) : W.cell? ⟨g, j, none⟩ = some (.string wdL[j]!) := by
  match j, hj with
  | 0, _ => exact h.cell 0
  | 1, _ => exact h.cell 1
  | 2, _ => exact h.cell 2
  | 3, _ => exact h.cell 3
  | 4, _ => exact h.cell 4
set_option linter.unusedSimpArgs false in
set_option maxRecDepth 100000 in
set_option maxHeartbeats 8000000 in
theorem c_Made (A : Option Addr) (N c : Nat) (xs : List I4) (w : World) (_ : N ≤ 9223372036854775807) (hx : ∀ x ∈ xs, ok4 x) (hl : xs.length = N) (hr : SlR w w.heap.size 4 A xs.length (xs.flatMap c4)) :
    Calls Tryz.prog 11 #[.slice A N c] w fun e w' => e = .returned (.slice (some ⟨w.heap.size, 0, none⟩) 3 3) ∧ RpT w' (w.heap.size + 1) w.heap.size (madL xs) ∧ Below w.heap.size w w' := by
  have HL := hide hl
  have HX := hide hx
  clear hl hx
  go_enter Tryz.func11, Tryz.ntmps11
  go_wp2_with fail
  go_loopw [5] (fun i wr => ∃ k : Nat, k ≤ N ∧ k ≤ 24 ∧ i = .int .i64 k ∧ MadeMem w ((xs.take k).foldl stpM [[], [], []]) wr) (fun i _ => 24 - (intOf i).toNat)
  case atStart =>
    refine ⟨0, Nat.zero_le _, Nat.zero_le _, rfl, ⟨[.int .i64 0, .slice none 0 0, .int .i64 1, .slice none 0 0, .int .i64 2, .slice none 0 0], fun _ => none, fun _ => 0, (Blk.new w 25 _).alloc _, rfl, fun i hi => ?_⟩, ?_, balloc (balloc (Below.refl _ _) _) _⟩
    · match i, hi with
      | 0, _ => exact ⟨rfl, rfl, Nat.le_refl _, by decide, SlN.nil⟩
      | 1, _ => exact ⟨rfl, rfl, Nat.le_refl _, by decide, SlN.nil⟩
      | 2, _ => exact ⟨rfl, rfl, Nat.le_refl _, by decide, SlN.nil⟩
    · have := Blk.new (w.alloc (.cells #[.int .i64 0, .slice none 0 0, .int .i64 1, .slice none 0 0, .int .i64 2, .slice none 0 0] 25)) 9 [.string wdL[0]!, .string wdL[1]!, .string wdL[2]!, .string wdL[3]!, .string wdL[4]!]
      rw [show (w.alloc (.cells #[.int .i64 0, .slice none 0 0, .int .i64 1, .slice none 0 0, .int .i64 2, .slice none 0 0] 25)).heap.size = w.heap.size + 1 from by simp] at this
      exact this
  case round =>
    obtain ⟨k, hk, hk24, rfl, hT, hWd, hb⟩ := hrel
    obtain ⟨w1, rfl⟩ : ∃ w1, w1 = wr := ⟨_, rfl⟩
    by_cases hlt : k < N
    · by_cases h24 : k < 24
      · have hkl : k < xs.length := by have := HL.out; omega
        have hji : (k : Int) < (N : Int) := by omega
        have hj24 : (k : Int) < 24 := by omega
        obtain ⟨G, hMI⟩ : ∃ G, MI 24 G ((xs.take k).foldl stpM [[], [], []]) := by
          obtain ⟨G, h⟩ := MI.fold (xs.take k) 0 [] _ MI.zero
          exact ⟨G, h.more (by rw [List.length_take]; omega)⟩
        have HSn := hide (madL_snoc xs k hkl)
        obtain ⟨L, hLe⟩ : ∃ L, (xs.take k).foldl stpM [[], [], []] = L := ⟨_, rfl⟩
        rw [hLe] at hT hMI HSn
        have hok := HX.out _ (List.getElem_mem hkl)
        obtain ⟨bx, offx, rfl, hbx, x0, x1, x2, x3⟩ := hr.at4 (Below.refl _ _) hkl
        have HXc : Hid (∀ W, Below w.heap.size w W → W.cell? ⟨bx, offx + k * 4, none⟩ = some (.int .i64 (xs[k]'hkl).1) ∧ W.cell? ⟨bx, offx + k * 4 + 1, none⟩ = some (.int .i64 (xs[k]'hkl).2.1) ∧ W.cell? ⟨bx, offx + k * 4 + 2, none⟩ = some (.int .i64 (xs[k]'hkl).2.2.1) ∧ W.cell? ⟨bx, offx + k * 4 + 3, none⟩ = some (.int .i64 (xs[k]'hkl).2.2.2)) := hide (fun W h => by
          obtain ⟨b', o', e, _, g0, g1, g2, g3⟩ := hr.at4 h hkl
          cases e
          exact ⟨g0, g1, g2, g3⟩)
        rw [stp_eq] at HSn
        generalize xs[k]'hkl = x at *
        obtain ⟨xa, xb, xc, xd⟩ := x
        obtain ⟨⟨ha1, ha2⟩, ⟨hb1, hb2⟩, ⟨hc1, hc2⟩, ⟨hd1, hd2⟩⟩ := hok
        dsimp only at HXc ha1 ha2 hb1 hb2 hc1 hc2 hd1 hd2
        clear x0 x1 x2 x3 hLe
        have hp3 : ∀ W : World, Calls Tryz.prog 42 #[.int .i64 xb, .int .i64 3] W fun e w' => e = .returned (.int .i64 (pkN xb 3 : Nat)) ∧ W = w' := fun W => by
          have := c_rpick xb 3 W hb1 hb2 (by omega) (by omega)
          rw [show pk xb 3 = ((pkN xb 3 : Nat) : Int) from pk_N xb 3 (by omega)] at this
          exact this
        have hpd : ∀ W : World, Calls Tryz.prog 42 #[.int .i64 xd, .int .i64 4] W fun e w' => e = .returned (.int .i64 (pk xd 4)) ∧ W = w' := fun W => c_rpick xd 4 W hd1 hd2 (by omega) (by omega)
        have hdr := pk_range xd 4 (by omega)
        have hk3 := pkN_lt xb 3 (by omega)
        obtain ⟨Ak, ck, hck1, hck2, hsk, hcell⟩ := hT.get hk3
        have hat := fun r hr' => hMI.at_ r (hMI.sub _ hk3 r hr')
        have hlenk := hMI.lenk hk3
        have HK := hide (And.intro hk3 (And.intro hMI (And.intro hT (And.intro hWd (And.intro hb hat)))))
        obtain ⟨y0, y1, y2, y3⟩ := hcell w1 (Below.refl _ _)
        obtain ⟨z0, z1, z2, z3⟩ := HXc.out w1 hb
        have hk3i : ((pkN xb 3 : Nat) : Int) < 3 := by omega
        have hgl := hT.lt
        have hbl : bx < w1.heap.size := Nat.lt_of_lt_of_le hbx hb.size
        have hsk2 := hsk.1
        have HGc : Hid (∀ W', Below w1.heap.size w1 W' → W'.cell? ⟨w.heap.size, pkN xb 3 * 2, none⟩ = some (.int .i64 (pkN xb 3 : Nat)) ∧ W'.cell? ⟨w.heap.size, pkN xb 3 * 2 + 1, none⟩ = some (.slice Ak (L[pkN xb 3]!).length ck) ∧ W'.frozen? ⟨w.heap.size, pkN xb 3 * 2, none⟩ = false ∧ W'.frozen? ⟨w.heap.size, pkN xb 3 * 2 + 1, none⟩ = false) := hide hcell
        clear hk3 hMI hT hWd hb hat hcell
        have HO : Hid (∃ o, stpO L (xa, xb, xc, xd) = o) := hide ⟨_, rfl⟩
        generalize hk3e : pkN xb 3 = k3 at *
        generalize hde : pk xd 4 = d at *
        generalize hle : L[k3]! = l at *
        have HE := hide (And.intro hk3e (And.intro hde hle))
        clear hk3e hde hle
        go_wp2_with (go_at_call 42; first | (with_reducible refine (hp3 _).mono ?_; rintro e w2 ⟨rfl, rfl⟩) | (with_reducible refine (hpd _).mono ?_; rintro e w2 ⟨rfl, rfl⟩))
        have gR := Blk.new w1 25 [.int .i64 k3, .slice Ak l.length ck]
        have hbA := balloc (Below.refl w1.heap.size w1) (.cells #[.int .i64 k3, .slice Ak l.length ck] 25)
        have hRl := gR.lt
        generalize w1.alloc (.cells #[.int .i64 k3, .slice Ak l.length ck] 25) = wA at *
        have HA : Hid (∀ W, Below wA.heap.size wA W → Blk W w1.heap.size 25 [.int .i64 k3, .slice Ak l.length ck] ∧ SlR W W.heap.size 7 Ak l.length (l.flatMap cR) ∧ Below w1.heap.size w1 W ∧ (W.cell? ⟨bx, offx + k * 4, none⟩ = some (.int .i64 xa) ∧ W.cell? ⟨bx, offx + k * 4 + 1, none⟩ = some (.int .i64 xb) ∧ W.cell? ⟨bx, offx + k * 4 + 2, none⟩ = some (.int .i64 xc) ∧ W.cell? ⟨bx, offx + k * 4 + 3, none⟩ = some (.int .i64 xd))) := hide (fun W h => by
          have hw := bthen hbA h
          exact ⟨gR.below h gR.lt, hsk2.to' hw, hw, HXc.out W (bthen HK.out.2.2.2.2.1 hw)⟩)
        have HatB : Hid (∀ n, d ≤ atL k3 d (l.take n) ∧ atL k3 d (l.take n) ≤ 99) := hide (fun n => by
          have := atL_spec k3 d 96 hdr.1 (l.take n) (fun r hr' => HK.out.2.2.2.2.2 r (List.mem_of_mem_take hr')) (by omega)
          omega)
        have HrA : Hid (∀ r ∈ l, 0 ≤ r.at_ ∧ r.at_ ≤ 96) := hide (fun r hr' => by
          refine ⟨?_, HK.out.2.2.2.2.2 r hr'⟩
          have hv := HK.out.2.1.vl k3 HK.out.1
          rw [HE.out.2.2] at hv
          exact (fm_num (hv.fm r hr')).2.2.2.2.1)
        clear gR hbA y0 y1 y2 y3 z0 z1 z2 z3 hp3 hsk2 hgl
        go_loopw [8, 9] (fun a i W => ∃ n : Nat, n ≤ l.length ∧ i = .int .i64 n ∧ a = .int .i64 (atL k3 d (l.take n)) ∧ Below wA.heap.size wA W) (fun _ i _ => l.length - (intOf i).toNat)
        case atStart => exact ⟨0, Nat.zero_le _, rfl, rfl, Below.refl _ _⟩
        case round =>
          obtain ⟨n, hn, rfl, rfl, hbW⟩ := hrel
          obtain ⟨gR, hsl, hbw, -, -, -, hxd⟩ := HA.out _ hbW
          obtain ⟨r0, r1⟩ := gR.two
          have hlr := gR.lt
          obtain ⟨hb1', hb2'⟩ := HatB.out n
          by_cases hln : n < l.length
          · have hni : (n : Int) < (l.length : Int) := by omega
            obtain ⟨b, off, rfl, hbb⟩ := hsl.some_of (by omega)
            obtain ⟨v0, v1, v2, v3, v4, v5, v6⟩ := hsl.bwR hln
            obtain ⟨-, y0, y1, y2, y3, y4, y5, y6⟩ := hsl.cellsR (Below.refl _ _) hln
            obtain ⟨u0, u1⟩ := gR.bw2
            have HS := hide (show atL k3 d (l.take (n + 1)) = if (l[n]'hln).pen = k3 then max (atL k3 d (l.take n)) ((l[n]'hln).at_ + d) else atL k3 d (l.take n) by rw [List.take_succ_eq_append_getElem hln, atL_snoc])
            obtain ⟨hr1, hr2⟩ := HrA.out _ (List.getElem_mem hln)
            have hxv := fun x : BW wr => (HA.out x.val (bthen hbW x.ok)).2.2.2.2.2.2
            have hpdW := fun x : BW wr => hpd x.val
            generalize l[n]'hln = r at *
            obtain ⟨rp, rn, rt, ro, rw', rk, rx⟩ := r
            dsimp only at v0 v1 v2 v3 v4 v5 v6 y0 y1 y2 y3 y4 y5 y6 hr1 hr2 HS
            have HB := hide hbW
            clear gR hsl hbw y1 y2 y3 y4 y5 y6 v1 v3 v4 v5 v6 hbW hxd
            by_cases hpen : rp = k3
            · have HS1 := hide (HS.out.trans (if_pos hpen))
              have hpi : rp = (k3 : Int) := hpen
              clear HS hpen
              generalize atL k3 d (l.take n) = at0 at *
              subst hpi
              by_cases hmx : at0 < rt + d
              · have hS2 : Hid (max at0 (rt + d) = rt + d) := hide (by omega)
                go_wp2_with fail
                refine wp_region_bw wr (Below.refl _ _) (by kernel_rfl) (by kernel_rfl) ?_
                repeat (go_big_quiet_step ((go_at_call 42; exact bw_same (hpdW _))))
                refine wpQuiet_nil ?_
                intro W2 hb2
                go_wp2_with fail
                have hw1 : wrap64 ((n : Int) + 1) = ((n + 1 : Nat) : Int) := (Go.IntWalk.wrap64_in _ (by omega)).trans rfl
                try rw [hw1]
                clear hw1
                refine ⟨⟨n + 1, hln, rfl, by rw [HS1.out, hS2.out], bthen HB.out hb2⟩, ?_⟩
                show l.length - ((n : Int) + 1).toNat < l.length - ((n : Nat) : Int).toNat
                omega
              · have hS2 : Hid (max at0 (rt + d) = at0) := hide (by omega)
                go_wp2_with fail
                refine wp_region_bw wr (Below.refl _ _) (by kernel_rfl) (by kernel_rfl) ?_
                repeat (go_big_quiet_step ((go_at_call 42; exact bw_same (hpdW _))))
                refine wpQuiet_nil ?_
                intro W2 hb2
                go_wp2_with fail
                have hw1 : wrap64 ((n : Int) + 1) = ((n + 1 : Nat) : Int) := (Go.IntWalk.wrap64_in _ (by omega)).trans rfl
                try rw [hw1]
                clear hw1
                refine ⟨⟨n + 1, hln, rfl, by rw [HS1.out, hS2.out], bthen HB.out hb2⟩, ?_⟩
                show l.length - ((n : Int) + 1).toNat < l.length - ((n : Nat) : Int).toNat
                omega
            · have HS1 := hide (HS.out.trans (if_neg hpen))
              have hpi : ¬ (rp = (k3 : Int)) := hpen
              clear HS hpen
              go_wp2_with fail
              have hw1 : wrap64 ((n : Int) + 1) = ((n + 1 : Nat) : Int) := (Go.IntWalk.wrap64_in _ (by omega)).trans rfl
              try rw [hw1]
              clear hw1
              refine ⟨⟨n + 1, hln, rfl, by rw [HS1.out], HB.out⟩, ?_⟩
              show l.length - ((n : Int) + 1).toNat < l.length - ((n : Nat) : Int).toNat
              omega
          · obtain rfl : n = l.length := by omega
            rw [List.take_length] at hb1' hb2' ⊢
            have HAt : Hid (∃ a, atL k3 d l = a) := hide ⟨_, rfl⟩
            obtain ⟨a, ha⟩ := HAt.out
            rw [ha] at hb1' hb2' ⊢
            have HA2 := hide ha
            obtain ⟨w2, rfl⟩ : ∃ w2, w2 = wr := ⟨_, rfl⟩
            clear HatB ha HAt hsl hbw hxd
            have hXw : w1.heap.size ≤ w2.heap.size := (HA.out _ hbW).2.2.1.size
            have gX := Blk.new w2 25 [.int .i64 k3, .slice Ak l.length ck]
            have hb3 := balloc (Below.refl w2.heap.size w2) (.cells #[.int .i64 k3, .slice Ak l.length ck] 25)
            have hX3' : w2.heap.size < (w2.alloc (.cells #[.int .i64 k3, .slice Ak l.length ck] 25)).heap.size := by simp
            have hpa : ∀ W : World, Calls Tryz.prog 42 #[.int .i64 xa, .int .i64 3] W fun e w' => e = .returned (.int .i64 (pkN xa 3 : Nat)) ∧ W = w' := fun W => by
              have := c_rpick xa 3 W ha1 ha2 (by omega) (by omega)
              rw [show pk xa 3 = ((pkN xa 3 : Nat) : Int) from pk_N xa 3 (by omega)] at this
              exact this
            have hc3 := pkN_lt xa 3 (by omega)
            have HG : Hid (∀ W', Below w1.heap.size w1 W' → W'.cell? ⟨w.heap.size, k3 * 2, none⟩ = some (.int .i64 k3) ∧ W'.cell? ⟨w.heap.size, k3 * 2 + 1, none⟩ = some (.slice Ak l.length ck) ∧ W'.frozen? ⟨w.heap.size, k3 * 2, none⟩ = false ∧ W'.frozen? ⟨w.heap.size, k3 * 2 + 1, none⟩ = false) := HGc
            have hgl2 : w.heap.size < w2.heap.size := by have := HK.out.2.2.1.lt; omega
            have HW := hide hbW
            have hX4 : w.heap.size + 1 ≤ w2.heap.size := hgl2
            obtain ⟨xx0, xx1, xx2, xx3⟩ := (HA.out _ hbW).2.2.2
            have hbx2 : bx < w2.heap.size := by omega
            clear hbW gR
            by_cases hca : pkN xa 3 = 0
            · rw [hca] at hpa
              have hp16 : ∀ W : World, Calls Tryz.prog 42 #[.int .i64 xc, .int .i64 16] W fun e w' => e = .returned (.int .i64 (pk xc 16)) ∧ W = w' := fun W => c_rpick xc 16 W hc1 hc2 (by omega) (by omega)
              have hq1 : -9223372036854775808 ≤ xc.tdiv 16 ∧ xc.tdiv 16 ≤ 9223372036854775807 := by
                have := Int.tdiv_eq_ediv (a := xc) (b := 16)
                rw [show Int.sign 16 = 1 from rfl] at this
                omega
              have hp5 : ∀ W : World, Calls Tryz.prog 42 #[.int .i64 (xc.tdiv 16), .int .i64 5] W fun e w' => e = .returned (.int .i64 (pkN (xc.tdiv 16) 5 : Nat)) ∧ W = w' := fun W => by
                have := c_rpick (xc.tdiv 16) 5 W hq1.1 hq1.2 (by omega) (by omega)
                rw [show pk (xc.tdiv 16) 5 = ((pkN (xc.tdiv 16) 5 : Nat) : Int) from pk_N (xc.tdiv 16) 5 (by omega)] at this
                exact this
              have hj5 := pkN_lt (xc.tdiv 16) 5 (by omega)
              have HOo : Hid (stpO L (xa, xb, xc, xd) = addM k3 l ⟨0, 0, a, -1, 0, pk xc 16, wdL[pkN (xc.tdiv 16) 5]!⟩) := hide (by
                unfold stpO
                dsimp only
                rw [hca, HE.out.1, HE.out.2.1, HE.out.2.2, HA2.out]
                rfl)
              clear hca
              generalize pkN (xc.tdiv 16) 5 = j5 at *
              have hj5i : (j5 : Int) < 5 := by omega
              have hqw := i64w hq1.1 hq1.2
              go_wp2_with (go_at_call 42; refine (hpa _).mono ?_; rintro e w4 ⟨rfl, rfl⟩)
              generalize w2.alloc (.cells #[.int .i64 k3, .slice Ak l.length ck] 25) = w3 at *
              have HX3 := hide gX
              have H23 := hide (bthen HW.out hb3)
              have hX1 : wA.heap.size ≤ w2.heap.size := HW.out.size
              have hX3 : w2.heap.size < w3.drew.heap.size := hX3'
              have hX4' : w.heap.size + 1 ≤ w3.drew.heap.size := Nat.le_trans hX4 (Nat.le_of_lt hX3)
              have HS : Hid (∀ W, Below wA.heap.size wA W → W.cell? ⟨w1.heap.size, 0, none⟩ = some (.int .i64 k3) ∧ W.cell? ⟨w1.heap.size, 1, none⟩ = some (.slice Ak l.length ck) ∧ W.cell? ⟨bx, offx + k * 4 + 2, none⟩ = some (.int .i64 xc) ∧ W.cell? ⟨w.heap.size + 1, j5, none⟩ = some (.string wdL[j5]!)) := hide (fun W h => by
                obtain ⟨g1, g2, g3, g4⟩ := HA.out W h
                exact ⟨g1.two.1, g1.two.2, g4.2.2.1, wd_at (HK.out.2.2.2.1.below g3 HK.out.2.2.2.1.lt) hj5⟩)
              have hco := c_rAdd k3 a (pk xc 16) wdL[j5]! Ak l.length ck l w3.drew hck1 hck2 (HA.out _ (bdrew H23.out)).2.1
              unfold rpV at hco
              obtain ⟨wY, rfl⟩ : ∃ wY, wY = w3 := ⟨_, rfl⟩
              clear gX hb3 xx0 xx1 xx2 xx3
              generalize wdL[j5]! = text at *
              refine wp_region_held_drew (S := fun W => W.cell? ⟨w1.heap.size, 0, none⟩ = some (.int .i64 k3) ∧ W.cell? ⟨w1.heap.size, 1, none⟩ = some (.slice Ak l.length ck) ∧ W.cell? ⟨bx, offx + k * 4 + 2, none⟩ = some (.int .i64 xc) ∧ W.cell? ⟨w.heap.size + 1, j5, none⟩ = some (.string text)) (by kernel_rfl) (HS.out _ (bdrew H23.out)) (fun hHeld => ?_)
              refine wpAnyH_take (i := 0) (v := ?_) rfl (by kernel_rfl) (by kernel_rfl) (by kernel_rfl) (fun _ _ _ h => h) (Or.inl ⟨by rfl, ?hy1⟩) (by assumption) ?rs1
              case hy1 => (intro w hSw; (try dsimp only at hSw); go_simp; try (with_reducible rfl))
              (try simp only [Act.put, List.setIfInBounds_toArray, List.set_cons_zero, List.set_cons_succ, List.getElem_toArray, List.getElem_cons_zero, List.getElem_cons_succ])
              refine wpAnyH_take (i := 1) (v := ?_) rfl (by kernel_rfl) (by kernel_rfl) (by kernel_rfl) (fun _ _ _ h => h) (Or.inl ⟨by rfl, ?hy2⟩) (by assumption) ?rs2
              case hy2 => (intro w hSw; (try dsimp only at hSw); go_simp; try (with_reducible rfl))
              (try simp only [Act.put, List.setIfInBounds_toArray, List.set_cons_zero, List.set_cons_succ, List.getElem_toArray, List.getElem_cons_zero, List.getElem_cons_succ])
              refine wpAnyH_take (i := 2) (v := ?_) rfl (by kernel_rfl) (by kernel_rfl) (by kernel_rfl) (fun _ _ _ h => h) (Or.inl ⟨by rfl, ?hy3⟩) (by assumption) ?rs3
              case hy3 => (intro w hSw; (try dsimp only at hSw); go_simp; try (with_reducible rfl))
              (try simp only [Act.put, List.setIfInBounds_toArray, List.set_cons_zero, List.set_cons_succ, List.getElem_toArray, List.getElem_cons_zero, List.getElem_cons_succ])
              refine wpAnyH_take (i := 3) (v := ?_) rfl (by kernel_rfl) (by kernel_rfl) (by kernel_rfl) (fun _ _ _ h => h) (Or.inl ⟨by rfl, ?hy4⟩) (by assumption) ?rs4
              case hy4 => (intro w hSw; (try dsimp only at hSw); go_simp; try (with_reducible rfl))
              (try simp only [Act.put, List.setIfInBounds_toArray, List.set_cons_zero, List.set_cons_succ, List.getElem_toArray, List.getElem_cons_zero, List.getElem_cons_succ])
              refine wpAnyH_take (i := 4) (v := ?_) rfl (by kernel_rfl) (by kernel_rfl) (by kernel_rfl) (fun _ _ _ h => h) (Or.inl ⟨by rfl, ?hy5⟩) (by assumption) ?rs5
              case hy5 => (intro w hSw; (try dsimp only at hSw); go_simp; try (with_reducible rfl))
              (try simp only [Act.put, List.setIfInBounds_toArray, List.set_cons_zero, List.set_cons_succ, List.getElem_toArray, List.getElem_cons_zero, List.getElem_cons_succ])
              refine wpAnyH_take (i := 5) (v := ?_) rfl (by kernel_rfl) (by kernel_rfl) (by kernel_rfl) (fun _ _ _ h => h) (Or.inl ⟨by rfl, ?hy6⟩) (by assumption) ?rs6
              case hy6 => (intro w hSw; (try dsimp only at hSw); go_simp; try (with_reducible rfl))
              (try simp only [Act.put, List.setIfInBounds_toArray, List.set_cons_zero, List.set_cons_succ, List.getElem_toArray, List.getElem_cons_zero, List.getElem_cons_succ])
              refine wpAnyH_take (i := 6) (v := ?_) rfl (by kernel_rfl) (by kernel_rfl) (by kernel_rfl) (fun _ _ _ h => h) (Or.inl ⟨by rfl, ?hy7⟩) (by assumption) ?rs7
              case hy7 => (intro w hSw; (try dsimp only at hSw); go_simp; try (with_reducible rfl))
              (try simp only [Act.put, List.setIfInBounds_toArray, List.set_cons_zero, List.set_cons_succ, List.getElem_toArray, List.getElem_cons_zero, List.getElem_cons_succ])
              refine wpAnyH_call (i := 7) rfl (by kernel_rfl) (by kernel_rfl) (by kernel_rfl) (fun _ _ _ h => h) (by rfl) ?he8 (fun w hSw => (hp16 _)) (by assumption) ?rs8
              case he8 => (intro w hSw; (try dsimp only at hSw); go_simp)
              (try simp only [Act.put, List.setIfInBounds_toArray, List.set_cons_zero, List.set_cons_succ, List.getElem_toArray, List.getElem_cons_zero, List.getElem_cons_succ])
              refine wpAnyH_take (i := 8) (v := ?_) rfl (by kernel_rfl) (by kernel_rfl) (by kernel_rfl) (fun _ _ _ h => h) (Or.inl ⟨by rfl, ?hy9⟩) (by assumption) ?rs9
              case hy9 => (intro w hSw; (try dsimp only at hSw); go_simp; try (with_reducible rfl))
              (try simp only [Act.put, List.setIfInBounds_toArray, List.set_cons_zero, List.set_cons_succ, List.getElem_toArray, List.getElem_cons_zero, List.getElem_cons_succ])
              refine wpAnyH_take (i := 9) (v := ?_) rfl (by kernel_rfl) (by kernel_rfl) (by kernel_rfl) (fun _ _ _ h => h) (Or.inl ⟨by rfl, ?hy10⟩) (by assumption) ?rs10
              case hy10 => (intro w hSw; (try dsimp only at hSw); go_simp; try (with_reducible rfl))
              (try simp only [Act.put, List.setIfInBounds_toArray, List.set_cons_zero, List.set_cons_succ, List.getElem_toArray, List.getElem_cons_zero, List.getElem_cons_succ])
              refine wpAnyH_take (i := 10) (v := ?_) rfl (by kernel_rfl) (by kernel_rfl) (by kernel_rfl) (fun _ _ _ h => h) (Or.inl ⟨by rfl, ?hy11⟩) (by assumption) ?rs11
              case hy11 => (intro w hSw; (try dsimp only at hSw); go_simp; try (with_reducible rfl))
              (try simp only [Act.put, List.setIfInBounds_toArray, List.set_cons_zero, List.set_cons_succ, List.getElem_toArray, List.getElem_cons_zero, List.getElem_cons_succ])
              refine wpAnyH_take (i := 11) (v := ?_) rfl (by kernel_rfl) (by kernel_rfl) (by kernel_rfl) (fun _ _ _ h => h) (Or.inl ⟨by rfl, ?hy12⟩) (by assumption) ?rs12
              case hy12 => (intro w hSw; (try dsimp only at hSw); go_simp; try (with_reducible rfl))
              (try simp only [Act.put, List.setIfInBounds_toArray, List.set_cons_zero, List.set_cons_succ, List.getElem_toArray, List.getElem_cons_zero, List.getElem_cons_succ])
              refine wpAnyH_take (i := 12) (v := ?_) rfl (by kernel_rfl) (by kernel_rfl) (by kernel_rfl) (fun _ _ _ h => h) (Or.inl ⟨by rfl, ?hy13⟩) (by assumption) ?rs13
              case hy13 => (intro w hSw; (try dsimp only at hSw); go_simp; try (with_reducible rfl))
              (try simp only [Act.put, List.setIfInBounds_toArray, List.set_cons_zero, List.set_cons_succ, List.getElem_toArray, List.getElem_cons_zero, List.getElem_cons_succ])
              refine wpAnyH_take (i := 13) (v := ?_) rfl (by kernel_rfl) (by kernel_rfl) (by kernel_rfl) (fun _ _ _ h => h) (Or.inl ⟨by rfl, ?hy14⟩) (by assumption) ?rs14
              case hy14 => (intro w hSw; (try dsimp only at hSw); go_simp; try (with_reducible rfl))
              (try simp only [Act.put, List.setIfInBounds_toArray, List.set_cons_zero, List.set_cons_succ, List.getElem_toArray, List.getElem_cons_zero, List.getElem_cons_succ])
              refine wpAnyH_take (i := 14) (v := ?_) rfl (by kernel_rfl) (by kernel_rfl) (by kernel_rfl) (fun _ _ _ h => h) (Or.inl ⟨by rfl, ?hy15⟩) (by assumption) ?rs15
              case hy15 => (intro w hSw; (try dsimp only at hSw); go_simp; try (with_reducible rfl))
              (try simp only [Act.put, List.setIfInBounds_toArray, List.set_cons_zero, List.set_cons_succ, List.getElem_toArray, List.getElem_cons_zero, List.getElem_cons_succ])
              refine wpAnyH_call (i := 15) rfl (by kernel_rfl) (by kernel_rfl) (by kernel_rfl) (fun _ _ _ h => h) (by rfl) ?he16 (fun w hSw => (hp5 _)) (by assumption) ?rs16
              case he16 => (intro w hSw; (try dsimp only at hSw); go_simp)
              (try simp only [Act.put, List.setIfInBounds_toArray, List.set_cons_zero, List.set_cons_succ, List.getElem_toArray, List.getElem_cons_zero, List.getElem_cons_succ])
              refine wpAnyH_take (i := 16) (v := ?_) rfl (by kernel_rfl) (by kernel_rfl) (by kernel_rfl) (fun _ _ _ h => h) (Or.inl ⟨by rfl, ?hy17⟩) (by assumption) ?rs17
              case hy17 => (intro w hSw; (try dsimp only at hSw); go_simp; try (with_reducible rfl))
              (try simp only [Act.put, List.setIfInBounds_toArray, List.set_cons_zero, List.set_cons_succ, List.getElem_toArray, List.getElem_cons_zero, List.getElem_cons_succ])
              refine wpAnyH_take (i := 17) (v := ?_) rfl (by kernel_rfl) (by kernel_rfl) (by kernel_rfl) (fun _ _ _ h => h) (Or.inl ⟨by rfl, ?hy18⟩) (by assumption) ?rs18
              case hy18 => (intro w hSw; (try dsimp only at hSw); go_simp; try (with_reducible rfl))
              (try simp only [Act.put, List.setIfInBounds_toArray, List.set_cons_zero, List.set_cons_succ, List.getElem_toArray, List.getElem_cons_zero, List.getElem_cons_succ])
              refine wpAnyH_ready (rs := [18]) (by kernel_rfl) (by simp) ?_
              refine AllReadyH.cons rfl (fun K hK => ?_) ?_
              · go_simp
                refine hco.mono ?_
                clear hco
                rintro e w5 hp
                obtain ⟨hb5, hp⟩ := hp
                have H5 := hide (bthen (bthen H23.out (bdrew (Below.refl wY.heap.size wY))) hb5)
                have H5X := hide (HX3.out.below (bthen (bdrew (Below.refl wY.heap.size wY)) hb5) HX3.out.lt)
                obtain ⟨z0, z1, z2, z3⟩ := H5X.out.all2
                have hz5 := H5X.out.lt
                clear hb5
                rcases hp with ⟨ho, rfl⟩ | ⟨m, A5, c5, ho, rfl, h1, h2, h3⟩
                · have HOe := hide (HOo.out.trans ho)
                  clear ho
                  refine hK.out _ _ (by exact (HS.out _ H5.out)) (fun hHeld => ?_)
                  clear hK K
                  (try simp only [Act.put, List.setIfInBounds_toArray, List.set_cons_zero, List.set_cons_succ, List.getElem_toArray, List.getElem_cons_zero, List.getElem_cons_succ])
                  refine wpAnyH_take (i := 19) (v := ?_) rfl (by kernel_rfl) (by kernel_rfl) (by kernel_rfl) (fun _ _ _ h => h) (Or.inl ⟨by rfl, ?hy19⟩) (by assumption) ?rs19
                  case hy19 => (intro w hSw; (try dsimp only at hSw); go_simp; try (with_reducible rfl))
                  (try simp only [Act.put, List.setIfInBounds_toArray, List.set_cons_zero, List.set_cons_succ, List.getElem_toArray, List.getElem_cons_zero, List.getElem_cons_succ])
                  refine wpAnyH_take (i := 20) (v := ?_) rfl (by kernel_rfl) (by kernel_rfl) (by kernel_rfl) (fun _ _ _ h => h) (Or.inl ⟨by rfl, ?hy20⟩) (by assumption) ?rs20
                  case hy20 => (intro w hSw; (try dsimp only at hSw); go_simp; try (with_reducible rfl))
                  (try simp only [Act.put, List.setIfInBounds_toArray, List.set_cons_zero, List.set_cons_succ, List.getElem_toArray, List.getElem_cons_zero, List.getElem_cons_succ])
                  refine wpAnyH_take (i := 21) (v := ?_) rfl (by kernel_rfl) (by kernel_rfl) (by kernel_rfl) (fun _ _ _ h => h) (Or.inl ⟨by rfl, ?hy21⟩) (by assumption) ?rs21
                  case hy21 => (intro w hSw; (try dsimp only at hSw); go_simp; try (with_reducible rfl))
                  (try simp only [Act.put, List.setIfInBounds_toArray, List.set_cons_zero, List.set_cons_succ, List.getElem_toArray, List.getElem_cons_zero, List.getElem_cons_succ])
                  refine wpAnyH_ready (rs := [22]) (by kernel_rfl) (by simp) ?_
                  refine AllReadyH.cons rfl (fun K hK => ?_) ?_
                  · go_simp
                    refine hK.out _ _ (by exact (HS.out _ (bset (p := ⟨w2.heap.size, 1, none⟩) (bset (p := ⟨w2.heap.size, 0, none⟩) H5.out hX1 _) hX1 _))) (fun hHeld => ?_)
                    clear hK K
                    (try simp only [Act.put, List.setIfInBounds_toArray, List.set_cons_zero, List.set_cons_succ, List.getElem_toArray, List.getElem_cons_zero, List.getElem_cons_succ])
                    refine wpAnyH_take (i := 23) (v := ?_) rfl (by kernel_rfl) (by kernel_rfl) (by kernel_rfl) (fun _ _ _ h => h) (Or.inl ⟨by rfl, ?hy22⟩) (by assumption) ?rs22
                    case hy22 => (intro w hSw; (try dsimp only at hSw); go_simp; try (with_reducible rfl))
                    (try simp only [Act.put, List.setIfInBounds_toArray, List.set_cons_zero, List.set_cons_succ, List.getElem_toArray, List.getElem_cons_zero, List.getElem_cons_succ])
                    refine wpAnyH_done (by kernel_rfl) ?_ _
                    have g6 : Blk ((w5.setCell ⟨w2.heap.size, 0, none⟩ (.int .i64 0)).setCell ⟨w2.heap.size, 1, none⟩ (.slice none 0 0)) w2.heap.size 25 [.int .i64 0, .slice none 0 0] := (H5X.out.set 0 (.int .i64 0)).set 1 (.slice none 0 0)
                    have hb6 : Below w1.heap.size w1 ((w5.setCell ⟨w2.heap.size, 0, none⟩ (.int .i64 0)).setCell ⟨w2.heap.size, 1, none⟩ (.slice none 0 0)) := (HA.out _ (bset (p := ⟨w2.heap.size, 1, none⟩) (bset (p := ⟨w2.heap.size, 0, none⟩) H5.out hX1 _) hX1 _)).2.2.1
                    generalize (w5.setCell ⟨w2.heap.size, 0, none⟩ (.int .i64 0)).setCell ⟨w2.heap.size, 1, none⟩ (.slice none 0 0) = w6 at *
                    have HF := hide (made_none HK.out.2.2.1 HK.out.2.2.2.1 HK.out.2.2.2.2.1 hb6)
                    clear g6 hb6 z0 z1 z2 z3
                    go_wp2_with fail
                    refine ⟨⟨k + 1, hlt, h24, rfl, by rw [HSn.out, HOe.out]; exact HF.out⟩, ?_⟩
                    show 24 - ((k : Int) + 1).toNat < 24 - ((k : Nat) : Int).toNat
                    omega
                  · exact AllReadyH.nil
                · have HOe := hide (HOo.out.trans ho)
                  have H3 := hide (And.intro h1 (And.intro h2 h3))
                  clear ho h1 h2 h3
                  refine hK.out _ _ (by exact (HS.out _ H5.out)) (fun hHeld => ?_)
                  clear hK K
                  (try simp only [Act.put, List.setIfInBounds_toArray, List.set_cons_zero, List.set_cons_succ, List.getElem_toArray, List.getElem_cons_zero, List.getElem_cons_succ])
                  refine wpAnyH_take (i := 19) (v := ?_) rfl (by kernel_rfl) (by kernel_rfl) (by kernel_rfl) (fun _ _ _ h => h) (Or.inl ⟨by rfl, ?hy23⟩) (by assumption) ?rs23
                  case hy23 => (intro w hSw; (try dsimp only at hSw); go_simp; try (with_reducible rfl))
                  (try simp only [Act.put, List.setIfInBounds_toArray, List.set_cons_zero, List.set_cons_succ, List.getElem_toArray, List.getElem_cons_zero, List.getElem_cons_succ])
                  refine wpAnyH_take (i := 20) (v := ?_) rfl (by kernel_rfl) (by kernel_rfl) (by kernel_rfl) (fun _ _ _ h => h) (Or.inl ⟨by rfl, ?hy24⟩) (by assumption) ?rs24
                  case hy24 => (intro w hSw; (try dsimp only at hSw); go_simp; try (with_reducible rfl))
                  (try simp only [Act.put, List.setIfInBounds_toArray, List.set_cons_zero, List.set_cons_succ, List.getElem_toArray, List.getElem_cons_zero, List.getElem_cons_succ])
                  refine wpAnyH_take (i := 21) (v := ?_) rfl (by kernel_rfl) (by kernel_rfl) (by kernel_rfl) (fun _ _ _ h => h) (Or.inl ⟨by rfl, ?hy25⟩) (by assumption) ?rs25
                  case hy25 => (intro w hSw; (try dsimp only at hSw); go_simp; try (with_reducible rfl))
                  (try simp only [Act.put, List.setIfInBounds_toArray, List.set_cons_zero, List.set_cons_succ, List.getElem_toArray, List.getElem_cons_zero, List.getElem_cons_succ])
                  refine wpAnyH_ready (rs := [22]) (by kernel_rfl) (by simp) ?_
                  refine AllReadyH.cons rfl (fun K hK => ?_) ?_
                  · go_simp
                    refine hK.out _ _ (by exact (HS.out _ (bset (p := ⟨w2.heap.size, 1, none⟩) (bset (p := ⟨w2.heap.size, 0, none⟩) H5.out hX1 _) hX1 _))) (fun hHeld => ?_)
                    clear hK K
                    (try simp only [Act.put, List.setIfInBounds_toArray, List.set_cons_zero, List.set_cons_succ, List.getElem_toArray, List.getElem_cons_zero, List.getElem_cons_succ])
                    refine wpAnyH_take (i := 23) (v := ?_) rfl (by kernel_rfl) (by kernel_rfl) (by kernel_rfl) (fun _ _ _ h => h) (Or.inl ⟨by rfl, ?hy26⟩) (by assumption) ?rs26
                    case hy26 => (intro w hSw; (try dsimp only at hSw); go_simp; try (with_reducible rfl))
                    (try simp only [Act.put, List.setIfInBounds_toArray, List.set_cons_zero, List.set_cons_succ, List.getElem_toArray, List.getElem_cons_zero, List.getElem_cons_succ])
                    refine wpAnyH_done (by kernel_rfl) ?_ _
                    have g6 : Blk ((w5.setCell ⟨w2.heap.size, 0, none⟩ (.int .i64 k3)).setCell ⟨w2.heap.size, 1, none⟩ (.slice A5 m.length c5)) w2.heap.size 25 [.int .i64 k3, .slice A5 m.length c5] := (H5X.out.set 0 (.int .i64 k3)).set 1 (.slice A5 m.length c5)
                    have hb6 : Below w1.heap.size w1 ((w5.setCell ⟨w2.heap.size, 0, none⟩ (.int .i64 k3)).setCell ⟨w2.heap.size, 1, none⟩ (.slice A5 m.length c5)) := (HA.out _ (bset (p := ⟨w2.heap.size, 1, none⟩) (bset (p := ⟨w2.heap.size, 0, none⟩) H5.out hX1 _) hX1 _)).2.2.1
                    have h36 : SlN ((w5.setCell ⟨w2.heap.size, 0, none⟩ (.int .i64 k3)).setCell ⟨w2.heap.size, 1, none⟩ (.slice A5 m.length c5)) (w.heap.size + 1) 7 A5 m.length (m.flatMap cR) := ((H3.out.2.2.set ⟨w2.heap.size, 0, none⟩ hX3 _).set ⟨w2.heap.size, 1, none⟩ hX3 _).mono hX4'
                    generalize (w5.setCell ⟨w2.heap.size, 0, none⟩ (.int .i64 k3)).setCell ⟨w2.heap.size, 1, none⟩ (.slice A5 m.length c5) = w6 at *
                    obtain ⟨c0, c1, f0, f1⟩ := HG.out w6 hb6
                    obtain ⟨q0, q1⟩ := g6.two
                    have hq := g6.lt
                    have hgl6 : w.heap.size < w6.heap.size := Nat.lt_of_lt_of_le HK.out.2.2.1.lt hb6.size
                    have HF := hide (made_some HK.out.1 HK.out.2.1.len HK.out.2.2.1 HK.out.2.2.2.1 HK.out.2.2.2.2.1 hb6 H3.out.1 H3.out.2.1 h36)
                    clear g6 hb6 h36 z0 z1 z2 z3
                    go_wp2_with fail
                    refine ⟨⟨k + 1, hlt, h24, rfl, by rw [HSn.out, HOe.out]; exact HF.out⟩, ?_⟩
                    show 24 - ((k : Int) + 1).toNat < 24 - ((k : Nat) : Int).toNat
                    omega
                  · exact AllReadyH.nil
              · exact AllReadyH.nil
            · by_cases hcb : pkN xa 3 = 1
              · rw [hcb] at hpa
                have hirl : 0 < l.length → pkN xc l.length < l.length := fun h => pkN_lt xc l.length h
                have HOo : Hid (stpO L (xa, xb, xc, xd) = if l.length = 0 then some l else corM k3 l ⟨0, 0, max a (l[pkN xc l.length]!.at_ + 1), l[pkN xc l.length]!.pen, l[pkN xc l.length]!.num, pk xd 16, wdL[pkN xd 5]!⟩) := hide (by
                  unfold stpO
                  dsimp only
                  rw [hcb, HE.out.1, HE.out.2.1, HE.out.2.2, HA2.out]
                  rfl)
                clear hcb hca
                by_cases hl0 : l.length = 0
                · have HOe := hide (HOo.out.trans (if_pos hl0))
                  have hli : ¬ ((0 : Int) < (l.length : Int)) := by omega
                  clear HOo hl0 hirl
                  go_upto_region 25 with (go_at_call 42; refine (hpa _).mono ?_; rintro e w4 ⟨rfl, rfl⟩)
                  generalize w2.alloc (.cells #[.int .i64 k3, .slice Ak l.length ck] 25) = w6 at *
                  have hb6 : Below w1.heap.size w1 w6 := (HA.out _ (bthen HW.out hb3)).2.2.1
                  obtain ⟨c0, c1, f0, f1⟩ := HG.out w6 hb6
                  obtain ⟨q0, q1⟩ := gX.two
                  have hgl6 : w.heap.size < w6.heap.size := by omega
                  have HF := hide (made_some HK.out.1 HK.out.2.1.len HK.out.2.2.1 HK.out.2.2.2.1 HK.out.2.2.2.2.1 hb6 hck1 hck2 (hsk.to hb6))
                  clear hb6 gX hb3 xx0 xx1 xx2 xx3
                  go_wp2_with fail
                  refine ⟨⟨k + 1, hlt, h24, rfl, by rw [HSn.out, HOe.out]; exact HF.out⟩, ?_⟩
                  show 24 - ((k : Int) + 1).toNat < 24 - ((k : Nat) : Int).toNat
                  omega
                · have hlp : 0 < l.length := by omega
                  have hir := hirl hlp
                  replace HOo := hide (HOo.out.trans (if_neg hl0))
                  have hli : (0 : Int) < (l.length : Int) := by omega
                  have hpl : ∀ W : World, Calls Tryz.prog 42 #[.int .i64 xc, .int .i64 (l.length : Nat)] W fun e w' => e = .returned (.int .i64 (pkN xc l.length : Nat)) ∧ W = w' := fun W => by
                    have := c_rpick xc l.length W hc1 hc2 (by omega) (by omega)
                    rw [show pk xc l.length = ((pkN xc l.length : Nat) : Int) from pk_N xc l.length hlp] at this
                    exact this
                  have hp16 : ∀ W : World, Calls Tryz.prog 42 #[.int .i64 xd, .int .i64 16] W fun e w' => e = .returned (.int .i64 (pk xd 16)) ∧ W = w' := fun W => c_rpick xd 16 W hd1 hd2 (by omega) (by omega)
                  have hp5 : ∀ W : World, Calls Tryz.prog 42 #[.int .i64 xd, .int .i64 5] W fun e w' => e = .returned (.int .i64 (pkN xd 5 : Nat)) ∧ W = w' := fun W => by
                    have := c_rpick xd 5 W hd1 hd2 (by omega) (by omega)
                    rw [show pk xd 5 = ((pkN xd 5 : Nat) : Int) from pk_N xd 5 (by omega)] at this
                    exact this
                  have hj5 := pkN_lt xd 5 (by omega)
                  obtain ⟨br, offr, rfl, hbr⟩ := (HA.out _ HW.out).2.1.some_of hlp
                  rw [bang hir] at HOo
                  obtain ⟨hrt1, hrt2⟩ := HrA.out _ (List.getElem_mem hir)
                  have HRC : Hid (∀ W, Below wA.heap.size wA W → W.cell? ⟨br, offr + pkN xc l.length * 7, none⟩ = some (.int .i64 (l[pkN xc l.length]'hir).pen) ∧ W.cell? ⟨br, offr + pkN xc l.length * 7 + 1, none⟩ = some (.int .i64 (l[pkN xc l.length]'hir).num) ∧ W.cell? ⟨br, offr + pkN xc l.length * 7 + 2, none⟩ = some (.int .i64 (l[pkN xc l.length]'hir).at_) ∧ W.cell? ⟨br, offr + pkN xc l.length * 7 + 3, none⟩ = some (.int .i64 (l[pkN xc l.length]'hir).of) ∧ W.cell? ⟨br, offr + pkN xc l.length * 7 + 4, none⟩ = some (.int .i64 (l[pkN xc l.length]'hir).which) ∧ W.cell? ⟨br, offr + pkN xc l.length * 7 + 5, none⟩ = some (.int .i64 (l[pkN xc l.length]'hir).kind) ∧ W.cell? ⟨br, offr + pkN xc l.length * 7 + 6, none⟩ = some (.string (l[pkN xc l.length]'hir).text)) := hide (fun W h => ((HA.out W h).2.1.cellsR (Below.refl _ _) hir).2)
                  clear hl0 hirl hbr
                  generalize l[pkN xc l.length]'hir = r at *
                  obtain ⟨rp, rn, rt, ro, rw', rk, rx⟩ := r
                  dsimp only at HOo hrt1 hrt2 HRC
                  generalize pkN xc l.length = ir at *
                  generalize pkN xd 5 = j5 at *
                  have hj5i : (j5 : Int) < 5 := by omega
                  have hiri : (ir : Int) < (l.length : Int) := by omega
                  go_wp2_with (go_at_call 42; refine (hpa _).mono ?_; rintro e w4 ⟨rfl, rfl⟩)
                  generalize w2.alloc (.cells #[.int .i64 k3, .slice (some ⟨br, offr, none⟩) l.length ck] 25) = w3 at *
                  have HX3 := hide gX
                  have H23 := hide (bthen HW.out hb3)
                  have hX1 : wA.heap.size ≤ w2.heap.size := HW.out.size
                  have HS1 : Hid (∀ W, Below wA.heap.size wA W → W.cell? ⟨w1.heap.size, 0, none⟩ = some (.int .i64 k3) ∧ W.cell? ⟨w1.heap.size, 1, none⟩ = some (.slice (some ⟨br, offr, none⟩) l.length ck) ∧ W.cell? ⟨bx, offx + k * 4 + 2, none⟩ = some (.int .i64 xc) ∧ W.cell? ⟨br, offr + ir * 7, none⟩ = some (.int .i64 rp) ∧ W.cell? ⟨br, offr + ir * 7 + 1, none⟩ = some (.int .i64 rn) ∧ W.cell? ⟨br, offr + ir * 7 + 2, none⟩ = some (.int .i64 rt) ∧ W.cell? ⟨br, offr + ir * 7 + 3, none⟩ = some (.int .i64 ro) ∧ W.cell? ⟨br, offr + ir * 7 + 4, none⟩ = some (.int .i64 rw') ∧ W.cell? ⟨br, offr + ir * 7 + 5, none⟩ = some (.int .i64 rk) ∧ W.cell? ⟨br, offr + ir * 7 + 6, none⟩ = some (.string rx)) := hide (fun W h => by
                    obtain ⟨g1, g2, g3, g4⟩ := HA.out W h
                    exact ⟨g1.two.1, g1.two.2, g4.2.2.1, HRC.out W h⟩)
                  have hXT : wA.heap.size ≤ w3.heap.size := H23.out.size
                  clear gX hb3 xx0 xx1 xx2 xx3 HRC
                  refine wp_region_held_drew (S := fun W => W.cell? ⟨w1.heap.size, 0, none⟩ = some (.int .i64 k3) ∧ W.cell? ⟨w1.heap.size, 1, none⟩ = some (.slice (some ⟨br, offr, none⟩) l.length ck) ∧ W.cell? ⟨bx, offx + k * 4 + 2, none⟩ = some (.int .i64 xc) ∧ W.cell? ⟨br, offr + ir * 7, none⟩ = some (.int .i64 rp) ∧ W.cell? ⟨br, offr + ir * 7 + 1, none⟩ = some (.int .i64 rn) ∧ W.cell? ⟨br, offr + ir * 7 + 2, none⟩ = some (.int .i64 rt) ∧ W.cell? ⟨br, offr + ir * 7 + 3, none⟩ = some (.int .i64 ro) ∧ W.cell? ⟨br, offr + ir * 7 + 4, none⟩ = some (.int .i64 rw') ∧ W.cell? ⟨br, offr + ir * 7 + 5, none⟩ = some (.int .i64 rk) ∧ W.cell? ⟨br, offr + ir * 7 + 6, none⟩ = some (.string rx)) (by kernel_rfl) (HS1.out _ (bdrew H23.out)) (fun hHeld => ?_)
                  refine wpAnyH_take (i := 0) (v := ?_) rfl (by kernel_rfl) (by kernel_rfl) (by kernel_rfl) (fun _ _ _ h => h) (Or.inl ⟨by rfl, ?hy27⟩) (by assumption) ?rs27
                  case hy27 => (intro w hSw; (try dsimp only at hSw); go_simp; try (with_reducible rfl))
                  (try simp only [Act.put, List.setIfInBounds_toArray, List.set_cons_zero, List.set_cons_succ, List.getElem_toArray, List.getElem_cons_zero, List.getElem_cons_succ])
                  refine wpAnyH_take (i := 1) (v := ?_) rfl (by kernel_rfl) (by kernel_rfl) (by kernel_rfl) (fun _ _ _ h => h) (Or.inl ⟨by rfl, ?hy28⟩) (by assumption) ?rs28
                  case hy28 => (intro w hSw; (try dsimp only at hSw); go_simp; try (with_reducible rfl))
                  (try simp only [Act.put, List.setIfInBounds_toArray, List.set_cons_zero, List.set_cons_succ, List.getElem_toArray, List.getElem_cons_zero, List.getElem_cons_succ])
                  refine wpAnyH_take (i := 2) (v := ?_) rfl (by kernel_rfl) (by kernel_rfl) (by kernel_rfl) (fun _ _ _ h => h) (Or.inl ⟨by rfl, ?hy29⟩) (by assumption) ?rs29
                  case hy29 => (intro w hSw; (try dsimp only at hSw); go_simp; try (with_reducible rfl))
                  (try simp only [Act.put, List.setIfInBounds_toArray, List.set_cons_zero, List.set_cons_succ, List.getElem_toArray, List.getElem_cons_zero, List.getElem_cons_succ])
                  refine wpAnyH_take (i := 3) (v := ?_) rfl (by kernel_rfl) (by kernel_rfl) (by kernel_rfl) (fun _ _ _ h => h) (Or.inl ⟨by rfl, ?hy30⟩) (by assumption) ?rs30
                  case hy30 => (intro w hSw; (try dsimp only at hSw); go_simp; try (with_reducible rfl))
                  (try simp only [Act.put, List.setIfInBounds_toArray, List.set_cons_zero, List.set_cons_succ, List.getElem_toArray, List.getElem_cons_zero, List.getElem_cons_succ])
                  refine wpAnyH_take (i := 4) (v := ?_) rfl (by kernel_rfl) (by kernel_rfl) (by kernel_rfl) (fun _ _ _ h => h) (Or.inl ⟨by rfl, ?hy31⟩) (by assumption) ?rs31
                  case hy31 => (intro w hSw; (try dsimp only at hSw); go_simp; try (with_reducible rfl))
                  (try simp only [Act.put, List.setIfInBounds_toArray, List.set_cons_zero, List.set_cons_succ, List.getElem_toArray, List.getElem_cons_zero, List.getElem_cons_succ])
                  refine wpAnyH_take (i := 5) (v := ?_) rfl (by kernel_rfl) (by kernel_rfl) (by kernel_rfl) (fun _ _ _ h => h) (Or.inl ⟨by rfl, ?hy32⟩) (by assumption) ?rs32
                  case hy32 => (intro w hSw; (try dsimp only at hSw); go_simp; try (with_reducible rfl))
                  (try simp only [Act.put, List.setIfInBounds_toArray, List.set_cons_zero, List.set_cons_succ, List.getElem_toArray, List.getElem_cons_zero, List.getElem_cons_succ])
                  refine wpAnyH_take (i := 6) (v := ?_) rfl (by kernel_rfl) (by kernel_rfl) (by kernel_rfl) (fun _ _ _ h => h) (Or.inl ⟨by rfl, ?hy33⟩) (by assumption) ?rs33
                  case hy33 => (intro w hSw; (try dsimp only at hSw); go_simp; try (with_reducible rfl))
                  (try simp only [Act.put, List.setIfInBounds_toArray, List.set_cons_zero, List.set_cons_succ, List.getElem_toArray, List.getElem_cons_zero, List.getElem_cons_succ])
                  refine wpAnyH_take (i := 7) (v := ?_) rfl (by kernel_rfl) (by kernel_rfl) (by kernel_rfl) (fun _ _ _ h => h) (Or.inl ⟨by rfl, ?hy34⟩) (by assumption) ?rs34
                  case hy34 => (intro w hSw; (try dsimp only at hSw); go_simp; try (with_reducible rfl))
                  (try simp only [Act.put, List.setIfInBounds_toArray, List.set_cons_zero, List.set_cons_succ, List.getElem_toArray, List.getElem_cons_zero, List.getElem_cons_succ])
                  refine wpAnyH_take (i := 8) (v := ?_) rfl (by kernel_rfl) (by kernel_rfl) (by kernel_rfl) (fun _ _ _ h => h) (Or.inl ⟨by rfl, ?hy35⟩) (by assumption) ?rs35
                  case hy35 => (intro w hSw; (try dsimp only at hSw); go_simp; try (with_reducible rfl))
                  (try simp only [Act.put, List.setIfInBounds_toArray, List.set_cons_zero, List.set_cons_succ, List.getElem_toArray, List.getElem_cons_zero, List.getElem_cons_succ])
                  refine wpAnyH_take (i := 9) (v := ?_) rfl (by kernel_rfl) (by kernel_rfl) (by kernel_rfl) (fun _ _ _ h => h) (Or.inl ⟨by rfl, ?hy36⟩) (by assumption) ?rs36
                  case hy36 => (intro w hSw; (try dsimp only at hSw); go_simp; try (with_reducible rfl))
                  (try simp only [Act.put, List.setIfInBounds_toArray, List.set_cons_zero, List.set_cons_succ, List.getElem_toArray, List.getElem_cons_zero, List.getElem_cons_succ])
                  refine wpAnyH_call (i := 10) rfl (by kernel_rfl) (by kernel_rfl) (by kernel_rfl) (fun _ _ _ h => h) (by rfl) ?he37 (fun w hSw => (hpl _)) (by assumption) ?rs37
                  case he37 => (intro w hSw; (try dsimp only at hSw); go_simp)
                  (try simp only [Act.put, List.setIfInBounds_toArray, List.set_cons_zero, List.set_cons_succ, List.getElem_toArray, List.getElem_cons_zero, List.getElem_cons_succ])
                  refine wpAnyH_take (i := 11) (v := ?_) rfl (by kernel_rfl) (by kernel_rfl) (by kernel_rfl) (fun _ _ _ h => h) (Or.inl ⟨by rfl, ?hy38⟩) (by assumption) ?rs38
                  case hy38 => (intro w hSw; (try dsimp only at hSw); go_simp; try (with_reducible rfl))
                  (try simp only [Act.put, List.setIfInBounds_toArray, List.set_cons_zero, List.set_cons_succ, List.getElem_toArray, List.getElem_cons_zero, List.getElem_cons_succ])
                  refine wpAnyH_take (i := 12) (v := ?_) rfl (by kernel_rfl) (by kernel_rfl) (by kernel_rfl) (fun _ _ _ h => h) (Or.inl ⟨by rfl, ?hy39⟩) (by assumption) ?rs39
                  case hy39 => (intro w hSw; (try dsimp only at hSw); go_simp; try (with_reducible rfl))
                  (try simp only [Act.put, List.setIfInBounds_toArray, List.set_cons_zero, List.set_cons_succ, List.getElem_toArray, List.getElem_cons_zero, List.getElem_cons_succ])
                  refine wpAnyH_ready (rs := [13]) (by kernel_rfl) (by simp) ?_
                  refine AllReadyH.cons rfl (fun K hK => ?_) ?_
                  · go_simp
                    refine hK.out _ _ (by exact (HS1.out _ (bdrew (balloc H23.out _)))) (fun hHeld => ?_)
                    clear hK K
                    (try simp only [Act.put, List.setIfInBounds_toArray, List.set_cons_zero, List.set_cons_succ, List.getElem_toArray, List.getElem_cons_zero, List.getElem_cons_succ])
                    have gT : Blk (w3.alloc (.cells #[.int .i64 0, .int .i64 0, .int .i64 0, .int .i64 0, .int .i64 0, .int .i64 0, .string ⟨#[]⟩] 49)).drew w3.heap.size 49 [.int .i64 0, .int .i64 0, .int .i64 0, .int .i64 0, .int .i64 0, .int .i64 0, .string ⟨#[]⟩] := Blk.new w3 49 [.int .i64 0, .int .i64 0, .int .i64 0, .int .i64 0, .int .i64 0, .int .i64 0, .string ⟨#[]⟩]
                    have hbT := bdrew (balloc H23.out (.cells #[.int .i64 0, .int .i64 0, .int .i64 0, .int .i64 0, .int .i64 0, .int .i64 0, .string ⟨#[]⟩] 49))
                    have hbT3 := bdrew (balloc (Below.refl w3.heap.size w3) (.cells #[.int .i64 0, .int .i64 0, .int .i64 0, .int .i64 0, .int .i64 0, .int .i64 0, .string ⟨#[]⟩] 49))
                    generalize (w3.alloc (.cells #[.int .i64 0, .int .i64 0, .int .i64 0, .int .i64 0, .int .i64 0, .int .i64 0, .string ⟨#[]⟩] 49)).drew = wT0 at *
                    obtain ⟨t0, t1, t2, t3, t4, t5, t6⟩ := gT.allR'
                    have hTl := gT.lt
                    obtain ⟨tf0, tf1, tf2, tf3, tf4, tf5, tf6⟩ := gT.fr7
                    refine wpAnyH_ready (rs := [14]) (by kernel_rfl) (by simp) ?_
                    refine AllReadyH.cons rfl (fun K hK => ?_) ?_
                    · go_simp
                      refine hK.out _ _ (by exact (HS1.out _ (bset (p := ⟨w3.heap.size, 6, none⟩) (bset (p := ⟨w3.heap.size, 5, none⟩) (bset (p := ⟨w3.heap.size, 4, none⟩) (bset (p := ⟨w3.heap.size, 3, none⟩) (bset (p := ⟨w3.heap.size, 2, none⟩) (bset (p := ⟨w3.heap.size, 1, none⟩) (bset (p := ⟨w3.heap.size, 0, none⟩) hbT hXT _) hXT _) hXT _) hXT _) hXT _) hXT _) hXT _))) (fun hHeld => ?_)
                      clear hK K
                      (try simp only [Act.put, List.setIfInBounds_toArray, List.set_cons_zero, List.set_cons_succ, List.getElem_toArray, List.getElem_cons_zero, List.getElem_cons_succ])
                      refine wpAnyH_done (by kernel_rfl) ?_ _
                      have gTZ : Blk ((((((((((((((wT0).setCell ⟨w3.heap.size, 0, none⟩ (.int .i64 rp))).setCell ⟨w3.heap.size, 1, none⟩ (.int .i64 rn))).setCell ⟨w3.heap.size, 2, none⟩ (.int .i64 rt))).setCell ⟨w3.heap.size, 3, none⟩ (.int .i64 ro))).setCell ⟨w3.heap.size, 4, none⟩ (.int .i64 rw'))).setCell ⟨w3.heap.size, 5, none⟩ (.int .i64 rk))).setCell ⟨w3.heap.size, 6, none⟩ (.string rx)) w3.heap.size 49 [.int .i64 rp, .int .i64 rn, .int .i64 rt, .int .i64 ro, .int .i64 rw', .int .i64 rk, .string rx] := ((((((gT.set 0 (.int .i64 rp)).set 1 (.int .i64 rn)).set 2 (.int .i64 rt)).set 3 (.int .i64 ro)).set 4 (.int .i64 rw')).set 5 (.int .i64 rk)).set 6 (.string rx)
                      have hbZ : Below wA.heap.size wA ((((((((((((((wT0).setCell ⟨w3.heap.size, 0, none⟩ (.int .i64 rp))).setCell ⟨w3.heap.size, 1, none⟩ (.int .i64 rn))).setCell ⟨w3.heap.size, 2, none⟩ (.int .i64 rt))).setCell ⟨w3.heap.size, 3, none⟩ (.int .i64 ro))).setCell ⟨w3.heap.size, 4, none⟩ (.int .i64 rw'))).setCell ⟨w3.heap.size, 5, none⟩ (.int .i64 rk))).setCell ⟨w3.heap.size, 6, none⟩ (.string rx)) := (bset (p := ⟨w3.heap.size, 6, none⟩) (bset (p := ⟨w3.heap.size, 5, none⟩) (bset (p := ⟨w3.heap.size, 4, none⟩) (bset (p := ⟨w3.heap.size, 3, none⟩) (bset (p := ⟨w3.heap.size, 2, none⟩) (bset (p := ⟨w3.heap.size, 1, none⟩) (bset (p := ⟨w3.heap.size, 0, none⟩) hbT hXT _) hXT _) hXT _) hXT _) hXT _) hXT _) hXT _)
                      have hbZ3 : Below w3.heap.size w3 ((((((((((((((wT0).setCell ⟨w3.heap.size, 0, none⟩ (.int .i64 rp))).setCell ⟨w3.heap.size, 1, none⟩ (.int .i64 rn))).setCell ⟨w3.heap.size, 2, none⟩ (.int .i64 rt))).setCell ⟨w3.heap.size, 3, none⟩ (.int .i64 ro))).setCell ⟨w3.heap.size, 4, none⟩ (.int .i64 rw'))).setCell ⟨w3.heap.size, 5, none⟩ (.int .i64 rk))).setCell ⟨w3.heap.size, 6, none⟩ (.string rx)) := (bset (p := ⟨w3.heap.size, 6, none⟩) (bset (p := ⟨w3.heap.size, 5, none⟩) (bset (p := ⟨w3.heap.size, 4, none⟩) (bset (p := ⟨w3.heap.size, 3, none⟩) (bset (p := ⟨w3.heap.size, 2, none⟩) (bset (p := ⟨w3.heap.size, 1, none⟩) (bset (p := ⟨w3.heap.size, 0, none⟩) hbT3 (Nat.le_refl _) _) (Nat.le_refl _) _) (Nat.le_refl _) _) (Nat.le_refl _) _) (Nat.le_refl _) _) (Nat.le_refl _) _) (Nat.le_refl _) _)
                      generalize ((((((((((((((wT0).setCell ⟨w3.heap.size, 0, none⟩ (.int .i64 rp))).setCell ⟨w3.heap.size, 1, none⟩ (.int .i64 rn))).setCell ⟨w3.heap.size, 2, none⟩ (.int .i64 rt))).setCell ⟨w3.heap.size, 3, none⟩ (.int .i64 ro))).setCell ⟨w3.heap.size, 4, none⟩ (.int .i64 rw'))).setCell ⟨w3.heap.size, 5, none⟩ (.int .i64 rk))).setCell ⟨w3.heap.size, 6, none⟩ (.string rx)) = wZ at *
                      have HZ := hide hbZ
                      have gXZ := HX3.out.below hbZ3 HX3.out.lt
                      have hX3 : w2.heap.size < wZ.drew.heap.size := Nat.lt_of_lt_of_le hX3' hbZ3.size
                      have hX4' : w.heap.size + 1 ≤ wZ.drew.heap.size := Nat.le_trans hX4 (Nat.le_of_lt hX3)
                      have HS : Hid (∀ W, Below wZ.heap.size wZ W → W.cell? ⟨w1.heap.size, 0, none⟩ = some (.int .i64 k3) ∧ W.cell? ⟨w1.heap.size, 1, none⟩ = some (.slice (some ⟨br, offr, none⟩) l.length ck) ∧ W.cell? ⟨bx, offx + k * 4 + 3, none⟩ = some (.int .i64 xd) ∧ W.cell? ⟨w3.heap.size, 0, none⟩ = some (.int .i64 rp) ∧ W.cell? ⟨w3.heap.size, 1, none⟩ = some (.int .i64 rn) ∧ W.cell? ⟨w3.heap.size, 2, none⟩ = some (.int .i64 rt) ∧ W.cell? ⟨w.heap.size + 1, j5, none⟩ = some (.string wdL[j5]!)) := hide (fun W h => by
                        obtain ⟨g1, g2, g3, g4⟩ := HA.out W (bthen HZ.out h)
                        have g5 := gTZ.below h gTZ.lt
                        exact ⟨g1.two.1, g1.two.2, g4.2.2.2, g5.cell 0, g5.cell 1, g5.cell 2, wd_at (HK.out.2.2.2.1.below g3 HK.out.2.2.2.1.lt) hj5⟩)
                      clear gT hbT hbT3 t0 t1 t2 t3 t4 t5 t6 tf0 tf1 tf2 tf3 tf4 tf5 tf6 hTl gTZ hbZ hbZ3
                      have hco := c_rCorrect k3 (max a (rt + 1)) rp rn (pk xd 16) wdL[j5]! (some ⟨br, offr, none⟩) l.length ck l wZ.drew hck1 hck2 (HA.out _ (bdrew HZ.out)).2.1
                      unfold rpV at hco
                      have hrw := i64w (x := rt + 1) (by omega) (by omega)
                      have HX3 := hide gXZ
                      have H23 := HZ
                      have hw1l := HK.out.2.2.2.1.lt
                      obtain ⟨wY, rfl⟩ : ∃ wY, wY = wZ := ⟨_, rfl⟩
                      generalize wdL[j5]! = text at *
                      go_wp2_with fail
                      refine wp_region_held_drew (S := fun W => W.cell? ⟨w1.heap.size, 0, none⟩ = some (.int .i64 k3) ∧ W.cell? ⟨w1.heap.size, 1, none⟩ = some (.slice (some ⟨br, offr, none⟩) l.length ck) ∧ W.cell? ⟨bx, offx + k * 4 + 3, none⟩ = some (.int .i64 xd) ∧ W.cell? ⟨w3.heap.size, 0, none⟩ = some (.int .i64 rp) ∧ W.cell? ⟨w3.heap.size, 1, none⟩ = some (.int .i64 rn) ∧ W.cell? ⟨w3.heap.size, 2, none⟩ = some (.int .i64 rt) ∧ W.cell? ⟨w.heap.size + 1, j5, none⟩ = some (.string text)) (by kernel_rfl) (HS.out _ (bdrew (Below.refl _ _))) (fun hHeld => ?_)
                      refine wpAnyH_take (i := 0) (v := ?_) rfl (by kernel_rfl) (by kernel_rfl) (by kernel_rfl) (fun _ _ _ h => h) (Or.inl ⟨by rfl, ?hy40⟩) (by assumption) ?rs40
                      case hy40 => (intro w hSw; (try dsimp only at hSw); go_simp; try (with_reducible rfl))
                      (try simp only [Act.put, List.setIfInBounds_toArray, List.set_cons_zero, List.set_cons_succ, List.getElem_toArray, List.getElem_cons_zero, List.getElem_cons_succ])
                      refine wpAnyH_take (i := 1) (v := ?_) rfl (by kernel_rfl) (by kernel_rfl) (by kernel_rfl) (fun _ _ _ h => h) (Or.inl ⟨by rfl, ?hy41⟩) (by assumption) ?rs41
                      case hy41 => (intro w hSw; (try dsimp only at hSw); go_simp; try (with_reducible rfl))
                      (try simp only [Act.put, List.setIfInBounds_toArray, List.set_cons_zero, List.set_cons_succ, List.getElem_toArray, List.getElem_cons_zero, List.getElem_cons_succ])
                      refine wpAnyH_take (i := 2) (v := ?_) rfl (by kernel_rfl) (by kernel_rfl) (by kernel_rfl) (fun _ _ _ h => h) (Or.inl ⟨by rfl, ?hy42⟩) (by assumption) ?rs42
                      case hy42 => (intro w hSw; (try dsimp only at hSw); go_simp; try (with_reducible rfl))
                      (try simp only [Act.put, List.setIfInBounds_toArray, List.set_cons_zero, List.set_cons_succ, List.getElem_toArray, List.getElem_cons_zero, List.getElem_cons_succ])
                      refine wpAnyH_take (i := 3) (v := ?_) rfl (by kernel_rfl) (by kernel_rfl) (by kernel_rfl) (fun _ _ _ h => h) (Or.inl ⟨by rfl, ?hy43⟩) (by assumption) ?rs43
                      case hy43 => (intro w hSw; (try dsimp only at hSw); go_simp; try (with_reducible rfl))
                      (try simp only [Act.put, List.setIfInBounds_toArray, List.set_cons_zero, List.set_cons_succ, List.getElem_toArray, List.getElem_cons_zero, List.getElem_cons_succ])
                      refine wpAnyH_take (i := 4) (v := ?_) rfl (by kernel_rfl) (by kernel_rfl) (by kernel_rfl) (fun _ _ _ h => h) (Or.inl ⟨by rfl, ?hy44⟩) (by assumption) ?rs44
                      case hy44 => (intro w hSw; (try dsimp only at hSw); go_simp; try (with_reducible rfl))
                      (try simp only [Act.put, List.setIfInBounds_toArray, List.set_cons_zero, List.set_cons_succ, List.getElem_toArray, List.getElem_cons_zero, List.getElem_cons_succ])
                      refine wpAnyH_take (i := 5) (v := ?_) rfl (by kernel_rfl) (by kernel_rfl) (by kernel_rfl) (fun _ _ _ h => h) (Or.inl ⟨by rfl, ?hy45⟩) (by assumption) ?rs45
                      case hy45 => (intro w hSw; (try dsimp only at hSw); go_simp; try (with_reducible rfl))
                      (try simp only [Act.put, List.setIfInBounds_toArray, List.set_cons_zero, List.set_cons_succ, List.getElem_toArray, List.getElem_cons_zero, List.getElem_cons_succ])
                      refine wpAnyH_take (i := 6) (v := ?_) rfl (by kernel_rfl) (by kernel_rfl) (by kernel_rfl) (fun _ _ _ h => h) (Or.inl ⟨by rfl, ?hy46⟩) (by assumption) ?rs46
                      case hy46 => (intro w hSw; (try dsimp only at hSw); go_simp; try (with_reducible rfl))
                      (try simp only [Act.put, List.setIfInBounds_toArray, List.set_cons_zero, List.set_cons_succ, List.getElem_toArray, List.getElem_cons_zero, List.getElem_cons_succ])
                      refine wpAnyH_take (i := 7) (v := ?_) rfl (by kernel_rfl) (by kernel_rfl) (by kernel_rfl) (fun _ _ _ h => h) (Or.inl ⟨by rfl, ?hy47⟩) (by assumption) ?rs47
                      case hy47 => (intro w hSw; (try dsimp only at hSw); go_simp; try (with_reducible rfl))
                      (try simp only [Act.put, List.setIfInBounds_toArray, List.set_cons_zero, List.set_cons_succ, List.getElem_toArray, List.getElem_cons_zero, List.getElem_cons_succ])
                      refine wpAnyH_take (i := 8) (v := ?_) rfl (by kernel_rfl) (by kernel_rfl) (by kernel_rfl) (fun _ _ _ h => h) (Or.inl ⟨by rfl, ?hy48⟩) (by assumption) ?rs48
                      case hy48 => (intro w hSw; (try dsimp only at hSw); go_simp; try (with_reducible rfl))
                      (try simp only [Act.put, List.setIfInBounds_toArray, List.set_cons_zero, List.set_cons_succ, List.getElem_toArray, List.getElem_cons_zero, List.getElem_cons_succ])
                      refine wpAnyH_take (i := 9) (v := ?_) rfl (by kernel_rfl) (by kernel_rfl) (by kernel_rfl) (fun _ _ _ h => h) (Or.inl ⟨by rfl, ?hy49⟩) (by assumption) ?rs49
                      case hy49 => (intro w hSw; (try dsimp only at hSw); go_simp; try (with_reducible rfl))
                      (try simp only [Act.put, List.setIfInBounds_toArray, List.set_cons_zero, List.set_cons_succ, List.getElem_toArray, List.getElem_cons_zero, List.getElem_cons_succ])
                      refine wpAnyH_take (i := 10) (v := ?_) rfl (by kernel_rfl) (by kernel_rfl) (by kernel_rfl) (fun _ _ _ h => h) (Or.inl ⟨by rfl, ?hy50⟩) (by assumption) ?rs50
                      case hy50 => (intro w hSw; (try dsimp only at hSw); go_simp; try (with_reducible rfl))
                      (try simp only [Act.put, List.setIfInBounds_toArray, List.set_cons_zero, List.set_cons_succ, List.getElem_toArray, List.getElem_cons_zero, List.getElem_cons_succ])
                      refine wpAnyH_take (i := 11) (v := ?_) rfl (by kernel_rfl) (by kernel_rfl) (by kernel_rfl) (fun _ _ _ h => h) (Or.inl ⟨by rfl, ?hy51⟩) (by assumption) ?rs51
                      case hy51 => (intro w hSw; (try dsimp only at hSw); go_simp; try (with_reducible rfl))
                      (try simp only [Act.put, List.setIfInBounds_toArray, List.set_cons_zero, List.set_cons_succ, List.getElem_toArray, List.getElem_cons_zero, List.getElem_cons_succ])
                      refine wpAnyH_take (i := 12) (v := ?_) rfl (by kernel_rfl) (by kernel_rfl) (by kernel_rfl) (fun _ _ _ h => h) (Or.inl ⟨by rfl, ?hy52⟩) (by assumption) ?rs52
                      case hy52 => (intro w hSw; (try dsimp only at hSw); go_simp; try (with_reducible rfl))
                      (try simp only [Act.put, List.setIfInBounds_toArray, List.set_cons_zero, List.set_cons_succ, List.getElem_toArray, List.getElem_cons_zero, List.getElem_cons_succ])
                      refine wpAnyH_take (i := 13) (v := ?_) rfl (by kernel_rfl) (by kernel_rfl) (by kernel_rfl) (fun _ _ _ h => h) (Or.inl ⟨by rfl, ?hy53⟩) (by assumption) ?rs53
                      case hy53 => (intro w hSw; (try dsimp only at hSw); go_simp; try (with_reducible rfl))
                      (try simp only [Act.put, List.setIfInBounds_toArray, List.set_cons_zero, List.set_cons_succ, List.getElem_toArray, List.getElem_cons_zero, List.getElem_cons_succ])
                      refine wpAnyH_take (i := 14) (v := ?_) rfl (by kernel_rfl) (by kernel_rfl) (by kernel_rfl) (fun _ _ _ h => h) (Or.inl ⟨by rfl, ?hy54⟩) (by assumption) ?rs54
                      case hy54 => (intro w hSw; (try dsimp only at hSw); go_simp; try (with_reducible rfl))
                      (try simp only [Act.put, List.setIfInBounds_toArray, List.set_cons_zero, List.set_cons_succ, List.getElem_toArray, List.getElem_cons_zero, List.getElem_cons_succ])
                      refine wpAnyH_call (i := 15) rfl (by kernel_rfl) (by kernel_rfl) (by kernel_rfl) (fun _ _ _ h => h) (by rfl) ?he55 (fun w hSw => (hp16 _)) (by assumption) ?rs55
                      case he55 => (intro w hSw; (try dsimp only at hSw); go_simp)
                      (try simp only [Act.put, List.setIfInBounds_toArray, List.set_cons_zero, List.set_cons_succ, List.getElem_toArray, List.getElem_cons_zero, List.getElem_cons_succ])
                      refine wpAnyH_take (i := 16) (v := ?_) rfl (by kernel_rfl) (by kernel_rfl) (by kernel_rfl) (fun _ _ _ h => h) (Or.inl ⟨by rfl, ?hy56⟩) (by assumption) ?rs56
                      case hy56 => (intro w hSw; (try dsimp only at hSw); go_simp; try (with_reducible rfl))
                      (try simp only [Act.put, List.setIfInBounds_toArray, List.set_cons_zero, List.set_cons_succ, List.getElem_toArray, List.getElem_cons_zero, List.getElem_cons_succ])
                      refine wpAnyH_take (i := 17) (v := ?_) rfl (by kernel_rfl) (by kernel_rfl) (by kernel_rfl) (fun _ _ _ h => h) (Or.inl ⟨by rfl, ?hy57⟩) (by assumption) ?rs57
                      case hy57 => (intro w hSw; (try dsimp only at hSw); go_simp; try (with_reducible rfl))
                      (try simp only [Act.put, List.setIfInBounds_toArray, List.set_cons_zero, List.set_cons_succ, List.getElem_toArray, List.getElem_cons_zero, List.getElem_cons_succ])
                      refine wpAnyH_take (i := 18) (v := ?_) rfl (by kernel_rfl) (by kernel_rfl) (by kernel_rfl) (fun _ _ _ h => h) (Or.inl ⟨by rfl, ?hy58⟩) (by assumption) ?rs58
                      case hy58 => (intro w hSw; (try dsimp only at hSw); go_simp; try (with_reducible rfl))
                      (try simp only [Act.put, List.setIfInBounds_toArray, List.set_cons_zero, List.set_cons_succ, List.getElem_toArray, List.getElem_cons_zero, List.getElem_cons_succ])
                      refine wpAnyH_take (i := 19) (v := ?_) rfl (by kernel_rfl) (by kernel_rfl) (by kernel_rfl) (fun _ _ _ h => h) (Or.inl ⟨by rfl, ?hy59⟩) (by assumption) ?rs59
                      case hy59 => (intro w hSw; (try dsimp only at hSw); go_simp; try (with_reducible rfl))
                      (try simp only [Act.put, List.setIfInBounds_toArray, List.set_cons_zero, List.set_cons_succ, List.getElem_toArray, List.getElem_cons_zero, List.getElem_cons_succ])
                      refine wpAnyH_take (i := 20) (v := ?_) rfl (by kernel_rfl) (by kernel_rfl) (by kernel_rfl) (fun _ _ _ h => h) (Or.inl ⟨by rfl, ?hy60⟩) (by assumption) ?rs60
                      case hy60 => (intro w hSw; (try dsimp only at hSw); go_simp; try (with_reducible rfl))
                      (try simp only [Act.put, List.setIfInBounds_toArray, List.set_cons_zero, List.set_cons_succ, List.getElem_toArray, List.getElem_cons_zero, List.getElem_cons_succ])
                      refine wpAnyH_take (i := 21) (v := ?_) rfl (by kernel_rfl) (by kernel_rfl) (by kernel_rfl) (fun _ _ _ h => h) (Or.inl ⟨by rfl, ?hy61⟩) (by assumption) ?rs61
                      case hy61 => (intro w hSw; (try dsimp only at hSw); go_simp; try (with_reducible rfl))
                      (try simp only [Act.put, List.setIfInBounds_toArray, List.set_cons_zero, List.set_cons_succ, List.getElem_toArray, List.getElem_cons_zero, List.getElem_cons_succ])
                      refine wpAnyH_call (i := 22) rfl (by kernel_rfl) (by kernel_rfl) (by kernel_rfl) (fun _ _ _ h => h) (by rfl) ?he62 (fun w hSw => (hp5 _)) (by assumption) ?rs62
                      case he62 => (intro w hSw; (try dsimp only at hSw); go_simp)
                      (try simp only [Act.put, List.setIfInBounds_toArray, List.set_cons_zero, List.set_cons_succ, List.getElem_toArray, List.getElem_cons_zero, List.getElem_cons_succ])
                      refine wpAnyH_take (i := 23) (v := ?_) rfl (by kernel_rfl) (by kernel_rfl) (by kernel_rfl) (fun _ _ _ h => h) (Or.inl ⟨by rfl, ?hy63⟩) (by assumption) ?rs63
                      case hy63 => (intro w hSw; (try dsimp only at hSw); go_simp; try (with_reducible rfl))
                      (try simp only [Act.put, List.setIfInBounds_toArray, List.set_cons_zero, List.set_cons_succ, List.getElem_toArray, List.getElem_cons_zero, List.getElem_cons_succ])
                      refine wpAnyH_take (i := 24) (v := ?_) rfl (by kernel_rfl) (by kernel_rfl) (by kernel_rfl) (fun _ _ _ h => h) (Or.inl ⟨by rfl, ?hy64⟩) (by assumption) ?rs64
                      case hy64 => (intro w hSw; (try dsimp only at hSw); go_simp; try (with_reducible rfl))
                      (try simp only [Act.put, List.setIfInBounds_toArray, List.set_cons_zero, List.set_cons_succ, List.getElem_toArray, List.getElem_cons_zero, List.getElem_cons_succ])
                      clear hrw
                      refine wpAnyH_ready (rs := [25]) (by kernel_rfl) (by simp) ?_
                      refine AllReadyH.cons rfl (fun K hK => ?_) ?_
                      · go_simp
                        refine hco.mono ?_
                        clear hco
                        rintro e w5 hp
                        obtain ⟨hb5, hp⟩ := hp
                        have H5 := hide (bthen (bthen H23.out (bdrew (Below.refl wY.heap.size wY))) hb5)
                        have H5X := hide (HX3.out.below (bthen (bdrew (Below.refl wY.heap.size wY)) hb5) HX3.out.lt)
                        obtain ⟨z0, z1, z2, z3⟩ := H5X.out.all2
                        have hz5 := H5X.out.lt
                        have H5Z := hide (bthen (bdrew (Below.refl wY.heap.size wY)) hb5)
                        clear hb5
                        rcases hp with ⟨ho, rfl⟩ | ⟨m, A5, c5, ho, rfl, h1, h2, h3⟩
                        · have HOe := hide (HOo.out.trans ho)
                          clear ho
                          refine hK.out _ _ (by exact (HS.out _ H5Z.out)) (fun hHeld => ?_)
                          clear hK K
                          (try simp only [Act.put, List.setIfInBounds_toArray, List.set_cons_zero, List.set_cons_succ, List.getElem_toArray, List.getElem_cons_zero, List.getElem_cons_succ])
                          refine wpAnyH_take (i := 26) (v := ?_) rfl (by kernel_rfl) (by kernel_rfl) (by kernel_rfl) (fun _ _ _ h => h) (Or.inl ⟨by rfl, ?hy65⟩) (by assumption) ?rs65
                          case hy65 => (intro w hSw; (try dsimp only at hSw); go_simp; try (with_reducible rfl))
                          (try simp only [Act.put, List.setIfInBounds_toArray, List.set_cons_zero, List.set_cons_succ, List.getElem_toArray, List.getElem_cons_zero, List.getElem_cons_succ])
                          refine wpAnyH_take (i := 27) (v := ?_) rfl (by kernel_rfl) (by kernel_rfl) (by kernel_rfl) (fun _ _ _ h => h) (Or.inl ⟨by rfl, ?hy66⟩) (by assumption) ?rs66
                          case hy66 => (intro w hSw; (try dsimp only at hSw); go_simp; try (with_reducible rfl))
                          (try simp only [Act.put, List.setIfInBounds_toArray, List.set_cons_zero, List.set_cons_succ, List.getElem_toArray, List.getElem_cons_zero, List.getElem_cons_succ])
                          refine wpAnyH_take (i := 28) (v := ?_) rfl (by kernel_rfl) (by kernel_rfl) (by kernel_rfl) (fun _ _ _ h => h) (Or.inl ⟨by rfl, ?hy67⟩) (by assumption) ?rs67
                          case hy67 => (intro w hSw; (try dsimp only at hSw); go_simp; try (with_reducible rfl))
                          (try simp only [Act.put, List.setIfInBounds_toArray, List.set_cons_zero, List.set_cons_succ, List.getElem_toArray, List.getElem_cons_zero, List.getElem_cons_succ])
                          refine wpAnyH_ready (rs := [29]) (by kernel_rfl) (by simp) ?_
                          refine AllReadyH.cons rfl (fun K hK => ?_) ?_
                          · go_simp
                            refine hK.out _ _ (by exact ⟨(cell_set2 w5 _ w2.heap.size _ _ (by dsimp only; omega)).trans (HS.out _ H5Z.out).1, (cell_set2 w5 _ w2.heap.size _ _ (by dsimp only; omega)).trans (HS.out _ H5Z.out).2.1, (cell_set2 w5 _ w2.heap.size _ _ (by dsimp only; omega)).trans (HS.out _ H5Z.out).2.2.1, (cell_set2 w5 _ w2.heap.size _ _ (by dsimp only; omega)).trans (HS.out _ H5Z.out).2.2.2.1, (cell_set2 w5 _ w2.heap.size _ _ (by dsimp only; omega)).trans (HS.out _ H5Z.out).2.2.2.2.1, (cell_set2 w5 _ w2.heap.size _ _ (by dsimp only; omega)).trans (HS.out _ H5Z.out).2.2.2.2.2.1, (cell_set2 w5 _ w2.heap.size _ _ (by dsimp only; omega)).trans (HS.out _ H5Z.out).2.2.2.2.2.2⟩) (fun hHeld => ?_)
                            clear hK K
                            (try simp only [Act.put, List.setIfInBounds_toArray, List.set_cons_zero, List.set_cons_succ, List.getElem_toArray, List.getElem_cons_zero, List.getElem_cons_succ])
                            refine wpAnyH_take (i := 30) (v := ?_) rfl (by kernel_rfl) (by kernel_rfl) (by kernel_rfl) (fun _ _ _ h => h) (Or.inl ⟨by rfl, ?hy68⟩) (by assumption) ?rs68
                            case hy68 => (intro w hSw; (try dsimp only at hSw); go_simp; try (with_reducible rfl))
                            (try simp only [Act.put, List.setIfInBounds_toArray, List.set_cons_zero, List.set_cons_succ, List.getElem_toArray, List.getElem_cons_zero, List.getElem_cons_succ])
                            refine wpAnyH_done (by kernel_rfl) ?_ _
                            have g6 : Blk ((w5.setCell ⟨w2.heap.size, 0, none⟩ (.int .i64 0)).setCell ⟨w2.heap.size, 1, none⟩ (.slice none 0 0)) w2.heap.size 25 [.int .i64 0, .slice none 0 0] := (H5X.out.set 0 (.int .i64 0)).set 1 (.slice none 0 0)
                            have hb6 : Below w1.heap.size w1 ((w5.setCell ⟨w2.heap.size, 0, none⟩ (.int .i64 0)).setCell ⟨w2.heap.size, 1, none⟩ (.slice none 0 0)) := (HA.out _ (bset (p := ⟨w2.heap.size, 1, none⟩) (bset (p := ⟨w2.heap.size, 0, none⟩) H5.out hX1 _) hX1 _)).2.2.1
                            generalize (w5.setCell ⟨w2.heap.size, 0, none⟩ (.int .i64 0)).setCell ⟨w2.heap.size, 1, none⟩ (.slice none 0 0) = w6 at *
                            have HF := hide (made_none HK.out.2.2.1 HK.out.2.2.2.1 HK.out.2.2.2.2.1 hb6)
                            clear g6 hb6 z0 z1 z2 z3
                            go_wp2_with fail
                            refine ⟨⟨k + 1, hlt, h24, rfl, by rw [HSn.out, HOe.out]; exact HF.out⟩, ?_⟩
                            show 24 - ((k : Int) + 1).toNat < 24 - ((k : Nat) : Int).toNat
                            omega
                          · exact AllReadyH.nil
                        · have HOe := hide (HOo.out.trans ho)
                          have H3 := hide (And.intro h1 (And.intro h2 h3))
                          clear ho h1 h2 h3
                          refine hK.out _ _ (by exact (HS.out _ H5Z.out)) (fun hHeld => ?_)
                          clear hK K
                          (try simp only [Act.put, List.setIfInBounds_toArray, List.set_cons_zero, List.set_cons_succ, List.getElem_toArray, List.getElem_cons_zero, List.getElem_cons_succ])
                          refine wpAnyH_take (i := 26) (v := ?_) rfl (by kernel_rfl) (by kernel_rfl) (by kernel_rfl) (fun _ _ _ h => h) (Or.inl ⟨by rfl, ?hy69⟩) (by assumption) ?rs69
                          case hy69 => (intro w hSw; (try dsimp only at hSw); go_simp; try (with_reducible rfl))
                          (try simp only [Act.put, List.setIfInBounds_toArray, List.set_cons_zero, List.set_cons_succ, List.getElem_toArray, List.getElem_cons_zero, List.getElem_cons_succ])
                          refine wpAnyH_take (i := 27) (v := ?_) rfl (by kernel_rfl) (by kernel_rfl) (by kernel_rfl) (fun _ _ _ h => h) (Or.inl ⟨by rfl, ?hy70⟩) (by assumption) ?rs70
                          case hy70 => (intro w hSw; (try dsimp only at hSw); go_simp; try (with_reducible rfl))
                          (try simp only [Act.put, List.setIfInBounds_toArray, List.set_cons_zero, List.set_cons_succ, List.getElem_toArray, List.getElem_cons_zero, List.getElem_cons_succ])
                          refine wpAnyH_take (i := 28) (v := ?_) rfl (by kernel_rfl) (by kernel_rfl) (by kernel_rfl) (fun _ _ _ h => h) (Or.inl ⟨by rfl, ?hy71⟩) (by assumption) ?rs71
                          case hy71 => (intro w hSw; (try dsimp only at hSw); go_simp; try (with_reducible rfl))
                          (try simp only [Act.put, List.setIfInBounds_toArray, List.set_cons_zero, List.set_cons_succ, List.getElem_toArray, List.getElem_cons_zero, List.getElem_cons_succ])
                          refine wpAnyH_ready (rs := [29]) (by kernel_rfl) (by simp) ?_
                          refine AllReadyH.cons rfl (fun K hK => ?_) ?_
                          · go_simp
                            refine hK.out _ _ (by exact ⟨(cell_set2 w5 _ w2.heap.size _ _ (by dsimp only; omega)).trans (HS.out _ H5Z.out).1, (cell_set2 w5 _ w2.heap.size _ _ (by dsimp only; omega)).trans (HS.out _ H5Z.out).2.1, (cell_set2 w5 _ w2.heap.size _ _ (by dsimp only; omega)).trans (HS.out _ H5Z.out).2.2.1, (cell_set2 w5 _ w2.heap.size _ _ (by dsimp only; omega)).trans (HS.out _ H5Z.out).2.2.2.1, (cell_set2 w5 _ w2.heap.size _ _ (by dsimp only; omega)).trans (HS.out _ H5Z.out).2.2.2.2.1, (cell_set2 w5 _ w2.heap.size _ _ (by dsimp only; omega)).trans (HS.out _ H5Z.out).2.2.2.2.2.1, (cell_set2 w5 _ w2.heap.size _ _ (by dsimp only; omega)).trans (HS.out _ H5Z.out).2.2.2.2.2.2⟩) (fun hHeld => ?_)
                            clear hK K
                            (try simp only [Act.put, List.setIfInBounds_toArray, List.set_cons_zero, List.set_cons_succ, List.getElem_toArray, List.getElem_cons_zero, List.getElem_cons_succ])
                            refine wpAnyH_take (i := 30) (v := ?_) rfl (by kernel_rfl) (by kernel_rfl) (by kernel_rfl) (fun _ _ _ h => h) (Or.inl ⟨by rfl, ?hy72⟩) (by assumption) ?rs72
                            case hy72 => (intro w hSw; (try dsimp only at hSw); go_simp; try (with_reducible rfl))
                            (try simp only [Act.put, List.setIfInBounds_toArray, List.set_cons_zero, List.set_cons_succ, List.getElem_toArray, List.getElem_cons_zero, List.getElem_cons_succ])
                            refine wpAnyH_done (by kernel_rfl) ?_ _
                            have g6 : Blk ((w5.setCell ⟨w2.heap.size, 0, none⟩ (.int .i64 k3)).setCell ⟨w2.heap.size, 1, none⟩ (.slice A5 m.length c5)) w2.heap.size 25 [.int .i64 k3, .slice A5 m.length c5] := (H5X.out.set 0 (.int .i64 k3)).set 1 (.slice A5 m.length c5)
                            have hb6 : Below w1.heap.size w1 ((w5.setCell ⟨w2.heap.size, 0, none⟩ (.int .i64 k3)).setCell ⟨w2.heap.size, 1, none⟩ (.slice A5 m.length c5)) := (HA.out _ (bset (p := ⟨w2.heap.size, 1, none⟩) (bset (p := ⟨w2.heap.size, 0, none⟩) H5.out hX1 _) hX1 _)).2.2.1
                            have h36 : SlN ((w5.setCell ⟨w2.heap.size, 0, none⟩ (.int .i64 k3)).setCell ⟨w2.heap.size, 1, none⟩ (.slice A5 m.length c5)) (w.heap.size + 1) 7 A5 m.length (m.flatMap cR) := ((H3.out.2.2.set ⟨w2.heap.size, 0, none⟩ hX3 _).set ⟨w2.heap.size, 1, none⟩ hX3 _).mono hX4'
                            generalize (w5.setCell ⟨w2.heap.size, 0, none⟩ (.int .i64 k3)).setCell ⟨w2.heap.size, 1, none⟩ (.slice A5 m.length c5) = w6 at *
                            obtain ⟨c0, c1, f0, f1⟩ := HG.out w6 hb6
                            obtain ⟨q0, q1⟩ := g6.two
                            have hq := g6.lt
                            have hgl6 : w.heap.size < w6.heap.size := Nat.lt_of_lt_of_le HK.out.2.2.1.lt hb6.size
                            have HF := hide (made_some HK.out.1 HK.out.2.1.len HK.out.2.2.1 HK.out.2.2.2.1 HK.out.2.2.2.2.1 hb6 H3.out.1 H3.out.2.1 h36)
                            clear g6 hb6 h36 z0 z1 z2 z3
                            go_wp2_with fail
                            refine ⟨⟨k + 1, hlt, h24, rfl, by rw [HSn.out, HOe.out]; exact HF.out⟩, ?_⟩
                            show 24 - ((k : Int) + 1).toNat < 24 - ((k : Nat) : Int).toNat
                            omega
                          · exact AllReadyH.nil
                      · exact AllReadyH.nil
                    · exact AllReadyH.nil
                  · exact AllReadyH.nil
              · have hcc : pkN xa 3 = 2 := by omega
                rw [hcc] at hpa
                have hca : pkN xa 3 = 2 := hcc
                clear hcc
                have hp2 : ∀ W : World, Calls Tryz.prog 42 #[.int .i64 xc, .int .i64 2] W fun e w' => e = .returned (.int .i64 (pkN xc 2 : Nat)) ∧ W = w' := fun W => by
                  have := c_rpick xc 2 W hc1 hc2 (by omega) (by omega)
                  rw [show pk xc 2 = ((pkN xc 2 : Nat) : Int) from pk_N xc 2 (by omega)] at this
                  exact this
                have hp2l := pkN_lt xc 2 (by omega)
                have hj3 : (k3 + 1 + pkN xc 2) % 3 < 3 := Nat.mod_lt _ (by decide)
                have hj3e : ((k3 : Int) + 1 + (pkN xc 2 : Nat)) % 3 = (((k3 + 1 + pkN xc 2) % 3 : Nat) : Int) := by omega
                have HOo : Hid (stpO L (xa, xb, xc, xd) = mrgM k3 l ((k3 + 1 + pkN xc 2) % 3 : Nat) (L[(k3 + 1 + pkN xc 2) % 3]!)) := hide (by
                  unfold stpO
                  dsimp only
                  rw [hca, HE.out.1, HE.out.2.2]
                  rfl)
                obtain ⟨Aj, cj, hcj1, hcj2, hsj, hcellj⟩ := HK.out.2.2.1.get hj3
                clear hca
                generalize L[(k3 + 1 + pkN xc 2) % 3]! = lj at *
                generalize (k3 + 1 + pkN xc 2) % 3 = j3 at *
                generalize pkN xc 2 = p2 at *
                have hj3i : (j3 : Int) < 3 := by omega
                go_wp2_with (go_at_call 42; refine (hpa _).mono ?_; rintro e w4 ⟨rfl, rfl⟩)
                generalize w2.alloc (.cells #[.int .i64 k3, .slice Ak l.length ck] 25) = w3 at *
                have HX3 := hide gX
                have H23 := hide (bthen HW.out hb3)
                have hX1 : wA.heap.size ≤ w2.heap.size := HW.out.size
                have hX3 : w2.heap.size < w3.drew.heap.size := hX3'
                have hX4' : w.heap.size + 1 ≤ w3.drew.heap.size := Nat.le_trans hX4 (Nat.le_of_lt hX3)
                have HS : Hid (∀ W, Below wA.heap.size wA W → W.cell? ⟨w1.heap.size, 0, none⟩ = some (.int .i64 k3) ∧ W.cell? ⟨w1.heap.size, 1, none⟩ = some (.slice Ak l.length ck) ∧ W.cell? ⟨bx, offx + k * 4 + 2, none⟩ = some (.int .i64 xc) ∧ W.cell? ⟨w.heap.size, j3 * 2, none⟩ = some (.int .i64 j3) ∧ W.cell? ⟨w.heap.size, j3 * 2 + 1, none⟩ = some (.slice Aj lj.length cj)) := hide (fun W h => by
                  obtain ⟨g1, g2, g3, g4⟩ := HA.out W h
                  exact ⟨g1.two.1, g1.two.2, g4.2.2.1, (hcellj W g3).1, (hcellj W g3).2.1⟩)
                have hco := c_rMerge k3 Ak l.length ck l j3 Aj lj.length cj lj w3.drew (by omega) (by omega) (HA.out _ (bdrew H23.out)).2.1 (hsj.1.to' (HA.out _ (bdrew H23.out)).2.2.1)
                unfold rpV at hco
                obtain ⟨wY, rfl⟩ : ∃ wY, wY = w3 := ⟨_, rfl⟩
                clear gX hb3 xx0 xx1 xx2 xx3 hcellj hsj
                have hwv : (IntKind.i64.wrap (IntKind.i64.wrap ((k3 : Int) + 1) + (p2 : Int))).tmod 3 = (j3 : Int) := by
                  rw [i64w (x := (k3 : Int) + 1) (by omega) (by omega), i64w (x := (k3 : Int) + 1 + (p2 : Int)) (by omega) (by omega), Int.tmod_eq_emod_of_nonneg (by omega)]
                  exact hj3e
                refine wp_region_held_drew (S := fun W => W.cell? ⟨w1.heap.size, 0, none⟩ = some (.int .i64 k3) ∧ W.cell? ⟨w1.heap.size, 1, none⟩ = some (.slice Ak l.length ck) ∧ W.cell? ⟨bx, offx + k * 4 + 2, none⟩ = some (.int .i64 xc) ∧ W.cell? ⟨w.heap.size, j3 * 2, none⟩ = some (.int .i64 j3) ∧ W.cell? ⟨w.heap.size, j3 * 2 + 1, none⟩ = some (.slice Aj lj.length cj)) (by kernel_rfl) (HS.out _ (bdrew H23.out)) (fun hHeld => ?_)
                refine wpAnyH_take (i := 0) (v := ?_) rfl (by kernel_rfl) (by kernel_rfl) (by kernel_rfl) (fun _ _ _ h => h) (Or.inl ⟨by rfl, ?hy73⟩) (by assumption) ?rs73
                case hy73 => (intro w hSw; (try dsimp only at hSw); go_simp; try (with_reducible rfl))
                (try simp only [Act.put, List.setIfInBounds_toArray, List.set_cons_zero, List.set_cons_succ, List.getElem_toArray, List.getElem_cons_zero, List.getElem_cons_succ])
                refine wpAnyH_take (i := 1) (v := ?_) rfl (by kernel_rfl) (by kernel_rfl) (by kernel_rfl) (fun _ _ _ h => h) (Or.inl ⟨by rfl, ?hy74⟩) (by assumption) ?rs74
                case hy74 => (intro w hSw; (try dsimp only at hSw); go_simp; try (with_reducible rfl))
                (try simp only [Act.put, List.setIfInBounds_toArray, List.set_cons_zero, List.set_cons_succ, List.getElem_toArray, List.getElem_cons_zero, List.getElem_cons_succ])
                refine wpAnyH_take (i := 2) (v := ?_) rfl (by kernel_rfl) (by kernel_rfl) (by kernel_rfl) (fun _ _ _ h => h) (Or.inl ⟨by rfl, ?hy75⟩) (by assumption) ?rs75
                case hy75 => (intro w hSw; (try dsimp only at hSw); go_simp; try (with_reducible rfl))
                (try simp only [Act.put, List.setIfInBounds_toArray, List.set_cons_zero, List.set_cons_succ, List.getElem_toArray, List.getElem_cons_zero, List.getElem_cons_succ])
                refine wpAnyH_take (i := 3) (v := ?_) rfl (by kernel_rfl) (by kernel_rfl) (by kernel_rfl) (fun _ _ _ h => h) (Or.inl ⟨by rfl, ?hy76⟩) (by assumption) ?rs76
                case hy76 => (intro w hSw; (try dsimp only at hSw); go_simp; try (with_reducible rfl))
                (try simp only [Act.put, List.setIfInBounds_toArray, List.set_cons_zero, List.set_cons_succ, List.getElem_toArray, List.getElem_cons_zero, List.getElem_cons_succ])
                refine wpAnyH_take (i := 4) (v := ?_) rfl (by kernel_rfl) (by kernel_rfl) (by kernel_rfl) (fun _ _ _ h => h) (Or.inl ⟨by rfl, ?hy77⟩) (by assumption) ?rs77
                case hy77 => (intro w hSw; (try dsimp only at hSw); go_simp; try (with_reducible rfl))
                (try simp only [Act.put, List.setIfInBounds_toArray, List.set_cons_zero, List.set_cons_succ, List.getElem_toArray, List.getElem_cons_zero, List.getElem_cons_succ])
                refine wpAnyH_take (i := 5) (v := ?_) rfl (by kernel_rfl) (by kernel_rfl) (by kernel_rfl) (fun _ _ _ h => h) (Or.inl ⟨by rfl, ?hy78⟩) (by assumption) ?rs78
                case hy78 => (intro w hSw; (try dsimp only at hSw); go_simp; try (with_reducible rfl))
                (try simp only [Act.put, List.setIfInBounds_toArray, List.set_cons_zero, List.set_cons_succ, List.getElem_toArray, List.getElem_cons_zero, List.getElem_cons_succ])
                refine wpAnyH_take (i := 6) (v := ?_) rfl (by kernel_rfl) (by kernel_rfl) (by kernel_rfl) (fun _ _ _ h => h) (Or.inl ⟨by rfl, ?hy79⟩) (by assumption) ?rs79
                case hy79 => (intro w hSw; (try dsimp only at hSw); go_simp; try (with_reducible rfl))
                (try simp only [Act.put, List.setIfInBounds_toArray, List.set_cons_zero, List.set_cons_succ, List.getElem_toArray, List.getElem_cons_zero, List.getElem_cons_succ])
                refine wpAnyH_take (i := 7) (v := ?_) rfl (by kernel_rfl) (by kernel_rfl) (by kernel_rfl) (fun _ _ _ h => h) (Or.inl ⟨by rfl, ?hy80⟩) (by assumption) ?rs80
                case hy80 => (intro w hSw; (try dsimp only at hSw); go_simp; try (with_reducible rfl))
                (try simp only [Act.put, List.setIfInBounds_toArray, List.set_cons_zero, List.set_cons_succ, List.getElem_toArray, List.getElem_cons_zero, List.getElem_cons_succ])
                refine wpAnyH_take (i := 8) (v := ?_) rfl (by kernel_rfl) (by kernel_rfl) (by kernel_rfl) (fun _ _ _ h => h) (Or.inl ⟨by rfl, ?hy81⟩) (by assumption) ?rs81
                case hy81 => (intro w hSw; (try dsimp only at hSw); go_simp; try (with_reducible rfl))
                (try simp only [Act.put, List.setIfInBounds_toArray, List.set_cons_zero, List.set_cons_succ, List.getElem_toArray, List.getElem_cons_zero, List.getElem_cons_succ])
                refine wpAnyH_call (i := 9) rfl (by kernel_rfl) (by kernel_rfl) (by kernel_rfl) (fun _ _ _ h => h) (by rfl) ?he82 (fun w hSw => (hp2 _)) (by assumption) ?rs82
                case he82 => (intro w hSw; (try dsimp only at hSw); go_simp)
                (try simp only [Act.put, List.setIfInBounds_toArray, List.set_cons_zero, List.set_cons_succ, List.getElem_toArray, List.getElem_cons_zero, List.getElem_cons_succ])
                refine wpAnyH_take (i := 10) (v := ?_) rfl (by kernel_rfl) (by kernel_rfl) (by kernel_rfl) (fun _ _ _ h => h) (Or.inl ⟨by rfl, ?hy83⟩) (by assumption) ?rs83
                case hy83 => (intro w hSw; (try dsimp only at hSw); go_simp; try (with_reducible rfl))
                (try simp only [Act.put, List.setIfInBounds_toArray, List.set_cons_zero, List.set_cons_succ, List.getElem_toArray, List.getElem_cons_zero, List.getElem_cons_succ])
                refine wpAnyH_take (i := 11) (v := ?_) rfl (by kernel_rfl) (by kernel_rfl) (by kernel_rfl) (fun _ _ _ h => h) (Or.inl ⟨by rfl, ?hy84⟩) (by assumption) ?rs84
                case hy84 => (intro w hSw; (try dsimp only at hSw); go_simp; try (with_reducible rfl))
                (try simp only [Act.put, List.setIfInBounds_toArray, List.set_cons_zero, List.set_cons_succ, List.getElem_toArray, List.getElem_cons_zero, List.getElem_cons_succ])
                refine wpAnyH_take (i := 12) (v := ?_) rfl (by kernel_rfl) (by kernel_rfl) (by kernel_rfl) (fun _ _ _ h => h) (Or.inl ⟨by rfl, ?hy85⟩) (by assumption) ?rs85
                case hy85 => (intro w hSw; (try dsimp only at hSw); go_simp; try (with_reducible rfl))
                (try simp only [Act.put, List.setIfInBounds_toArray, List.set_cons_zero, List.set_cons_succ, List.getElem_toArray, List.getElem_cons_zero, List.getElem_cons_succ])
                refine wpAnyH_take (i := 13) (v := ?_) rfl (by kernel_rfl) (by kernel_rfl) (by kernel_rfl) (fun _ _ _ h => h) (Or.inl ⟨by rfl, ?hy86⟩) (by assumption) ?rs86
                case hy86 => (intro w hSw; (try dsimp only at hSw); go_simp; try (with_reducible rfl))
                (try simp only [Act.put, List.setIfInBounds_toArray, List.set_cons_zero, List.set_cons_succ, List.getElem_toArray, List.getElem_cons_zero, List.getElem_cons_succ])
                clear hwv
                refine wpAnyH_ready (rs := [14]) (by kernel_rfl) (by simp) ?_
                refine AllReadyH.cons rfl (fun K hK => ?_) ?_
                · go_simp
                  refine hco.mono ?_
                  clear hco
                  rintro e w5 hp
                  obtain ⟨hb5, hp⟩ := hp
                  have H5 := hide (bthen (bthen H23.out (bdrew (Below.refl wY.heap.size wY))) hb5)
                  have H5X := hide (HX3.out.below (bthen (bdrew (Below.refl wY.heap.size wY)) hb5) HX3.out.lt)
                  obtain ⟨z0, z1, z2, z3⟩ := H5X.out.all2
                  have hz5 := H5X.out.lt
                  clear hb5
                  rcases hp with ⟨ho, rfl⟩ | ⟨m, A5, c5, ho, rfl, h1, h2, h3⟩
                  · have HOe := hide (HOo.out.trans ho)
                    clear ho
                    refine hK.out _ _ (by exact (HS.out _ H5.out)) (fun hHeld => ?_)
                    clear hK K
                    (try simp only [Act.put, List.setIfInBounds_toArray, List.set_cons_zero, List.set_cons_succ, List.getElem_toArray, List.getElem_cons_zero, List.getElem_cons_succ])
                    refine wpAnyH_take (i := 15) (v := ?_) rfl (by kernel_rfl) (by kernel_rfl) (by kernel_rfl) (fun _ _ _ h => h) (Or.inl ⟨by rfl, ?hy87⟩) (by assumption) ?rs87
                    case hy87 => (intro w hSw; (try dsimp only at hSw); go_simp; try (with_reducible rfl))
                    (try simp only [Act.put, List.setIfInBounds_toArray, List.set_cons_zero, List.set_cons_succ, List.getElem_toArray, List.getElem_cons_zero, List.getElem_cons_succ])
                    refine wpAnyH_take (i := 16) (v := ?_) rfl (by kernel_rfl) (by kernel_rfl) (by kernel_rfl) (fun _ _ _ h => h) (Or.inl ⟨by rfl, ?hy88⟩) (by assumption) ?rs88
                    case hy88 => (intro w hSw; (try dsimp only at hSw); go_simp; try (with_reducible rfl))
                    (try simp only [Act.put, List.setIfInBounds_toArray, List.set_cons_zero, List.set_cons_succ, List.getElem_toArray, List.getElem_cons_zero, List.getElem_cons_succ])
                    refine wpAnyH_take (i := 17) (v := ?_) rfl (by kernel_rfl) (by kernel_rfl) (by kernel_rfl) (fun _ _ _ h => h) (Or.inl ⟨by rfl, ?hy89⟩) (by assumption) ?rs89
                    case hy89 => (intro w hSw; (try dsimp only at hSw); go_simp; try (with_reducible rfl))
                    (try simp only [Act.put, List.setIfInBounds_toArray, List.set_cons_zero, List.set_cons_succ, List.getElem_toArray, List.getElem_cons_zero, List.getElem_cons_succ])
                    refine wpAnyH_ready (rs := [18]) (by kernel_rfl) (by simp) ?_
                    refine AllReadyH.cons rfl (fun K hK => ?_) ?_
                    · go_simp
                      refine hK.out _ _ (by exact (HS.out _ (bset (p := ⟨w2.heap.size, 1, none⟩) (bset (p := ⟨w2.heap.size, 0, none⟩) H5.out hX1 _) hX1 _))) (fun hHeld => ?_)
                      clear hK K
                      (try simp only [Act.put, List.setIfInBounds_toArray, List.set_cons_zero, List.set_cons_succ, List.getElem_toArray, List.getElem_cons_zero, List.getElem_cons_succ])
                      refine wpAnyH_take (i := 19) (v := ?_) rfl (by kernel_rfl) (by kernel_rfl) (by kernel_rfl) (fun _ _ _ h => h) (Or.inl ⟨by rfl, ?hy90⟩) (by assumption) ?rs90
                      case hy90 => (intro w hSw; (try dsimp only at hSw); go_simp; try (with_reducible rfl))
                      (try simp only [Act.put, List.setIfInBounds_toArray, List.set_cons_zero, List.set_cons_succ, List.getElem_toArray, List.getElem_cons_zero, List.getElem_cons_succ])
                      refine wpAnyH_done (by kernel_rfl) ?_ _
                      have g6 : Blk ((w5.setCell ⟨w2.heap.size, 0, none⟩ (.int .i64 0)).setCell ⟨w2.heap.size, 1, none⟩ (.slice none 0 0)) w2.heap.size 25 [.int .i64 0, .slice none 0 0] := (H5X.out.set 0 (.int .i64 0)).set 1 (.slice none 0 0)
                      have hb6 : Below w1.heap.size w1 ((w5.setCell ⟨w2.heap.size, 0, none⟩ (.int .i64 0)).setCell ⟨w2.heap.size, 1, none⟩ (.slice none 0 0)) := (HA.out _ (bset (p := ⟨w2.heap.size, 1, none⟩) (bset (p := ⟨w2.heap.size, 0, none⟩) H5.out hX1 _) hX1 _)).2.2.1
                      generalize (w5.setCell ⟨w2.heap.size, 0, none⟩ (.int .i64 0)).setCell ⟨w2.heap.size, 1, none⟩ (.slice none 0 0) = w6 at *
                      have HF := hide (made_none HK.out.2.2.1 HK.out.2.2.2.1 HK.out.2.2.2.2.1 hb6)
                      clear g6 hb6 z0 z1 z2 z3
                      go_wp2_with fail
                      refine ⟨⟨k + 1, hlt, h24, rfl, by rw [HSn.out, HOe.out]; exact HF.out⟩, ?_⟩
                      show 24 - ((k : Int) + 1).toNat < 24 - ((k : Nat) : Int).toNat
                      omega
                    · exact AllReadyH.nil
                  · have HOe := hide (HOo.out.trans ho)
                    have H3 := hide (And.intro h1 (And.intro h2 h3))
                    clear ho h1 h2 h3
                    refine hK.out _ _ (by exact (HS.out _ H5.out)) (fun hHeld => ?_)
                    clear hK K
                    (try simp only [Act.put, List.setIfInBounds_toArray, List.set_cons_zero, List.set_cons_succ, List.getElem_toArray, List.getElem_cons_zero, List.getElem_cons_succ])
                    refine wpAnyH_take (i := 15) (v := ?_) rfl (by kernel_rfl) (by kernel_rfl) (by kernel_rfl) (fun _ _ _ h => h) (Or.inl ⟨by rfl, ?hy91⟩) (by assumption) ?rs91
                    case hy91 => (intro w hSw; (try dsimp only at hSw); go_simp; try (with_reducible rfl))
                    (try simp only [Act.put, List.setIfInBounds_toArray, List.set_cons_zero, List.set_cons_succ, List.getElem_toArray, List.getElem_cons_zero, List.getElem_cons_succ])
                    refine wpAnyH_take (i := 16) (v := ?_) rfl (by kernel_rfl) (by kernel_rfl) (by kernel_rfl) (fun _ _ _ h => h) (Or.inl ⟨by rfl, ?hy92⟩) (by assumption) ?rs92
                    case hy92 => (intro w hSw; (try dsimp only at hSw); go_simp; try (with_reducible rfl))
                    (try simp only [Act.put, List.setIfInBounds_toArray, List.set_cons_zero, List.set_cons_succ, List.getElem_toArray, List.getElem_cons_zero, List.getElem_cons_succ])
                    refine wpAnyH_take (i := 17) (v := ?_) rfl (by kernel_rfl) (by kernel_rfl) (by kernel_rfl) (fun _ _ _ h => h) (Or.inl ⟨by rfl, ?hy93⟩) (by assumption) ?rs93
                    case hy93 => (intro w hSw; (try dsimp only at hSw); go_simp; try (with_reducible rfl))
                    (try simp only [Act.put, List.setIfInBounds_toArray, List.set_cons_zero, List.set_cons_succ, List.getElem_toArray, List.getElem_cons_zero, List.getElem_cons_succ])
                    refine wpAnyH_ready (rs := [18]) (by kernel_rfl) (by simp) ?_
                    refine AllReadyH.cons rfl (fun K hK => ?_) ?_
                    · go_simp
                      refine hK.out _ _ (by exact (HS.out _ (bset (p := ⟨w2.heap.size, 1, none⟩) (bset (p := ⟨w2.heap.size, 0, none⟩) H5.out hX1 _) hX1 _))) (fun hHeld => ?_)
                      clear hK K
                      (try simp only [Act.put, List.setIfInBounds_toArray, List.set_cons_zero, List.set_cons_succ, List.getElem_toArray, List.getElem_cons_zero, List.getElem_cons_succ])
                      refine wpAnyH_take (i := 19) (v := ?_) rfl (by kernel_rfl) (by kernel_rfl) (by kernel_rfl) (fun _ _ _ h => h) (Or.inl ⟨by rfl, ?hy94⟩) (by assumption) ?rs94
                      case hy94 => (intro w hSw; (try dsimp only at hSw); go_simp; try (with_reducible rfl))
                      (try simp only [Act.put, List.setIfInBounds_toArray, List.set_cons_zero, List.set_cons_succ, List.getElem_toArray, List.getElem_cons_zero, List.getElem_cons_succ])
                      refine wpAnyH_done (by kernel_rfl) ?_ _
                      have g6 : Blk ((w5.setCell ⟨w2.heap.size, 0, none⟩ (.int .i64 k3)).setCell ⟨w2.heap.size, 1, none⟩ (.slice A5 m.length c5)) w2.heap.size 25 [.int .i64 k3, .slice A5 m.length c5] := (H5X.out.set 0 (.int .i64 k3)).set 1 (.slice A5 m.length c5)
                      have hb6 : Below w1.heap.size w1 ((w5.setCell ⟨w2.heap.size, 0, none⟩ (.int .i64 k3)).setCell ⟨w2.heap.size, 1, none⟩ (.slice A5 m.length c5)) := (HA.out _ (bset (p := ⟨w2.heap.size, 1, none⟩) (bset (p := ⟨w2.heap.size, 0, none⟩) H5.out hX1 _) hX1 _)).2.2.1
                      have h36 : SlN ((w5.setCell ⟨w2.heap.size, 0, none⟩ (.int .i64 k3)).setCell ⟨w2.heap.size, 1, none⟩ (.slice A5 m.length c5)) (w.heap.size + 1) 7 A5 m.length (m.flatMap cR) := ((H3.out.2.2.set ⟨w2.heap.size, 0, none⟩ hX3 _).set ⟨w2.heap.size, 1, none⟩ hX3 _).mono hX4'
                      generalize (w5.setCell ⟨w2.heap.size, 0, none⟩ (.int .i64 k3)).setCell ⟨w2.heap.size, 1, none⟩ (.slice A5 m.length c5) = w6 at *
                      obtain ⟨c0, c1, f0, f1⟩ := HG.out w6 hb6
                      obtain ⟨q0, q1⟩ := g6.two
                      have hq := g6.lt
                      have hgl6 : w.heap.size < w6.heap.size := Nat.lt_of_lt_of_le HK.out.2.2.1.lt hb6.size
                      have HF := hide (made_some HK.out.1 HK.out.2.1.len HK.out.2.2.1 HK.out.2.2.2.1 HK.out.2.2.2.2.1 hb6 H3.out.1 H3.out.2.1 h36)
                      clear g6 hb6 h36 z0 z1 z2 z3
                      go_wp2_with fail
                      refine ⟨⟨k + 1, hlt, h24, rfl, by rw [HSn.out, HOe.out]; exact HF.out⟩, ?_⟩
                      show 24 - ((k : Int) + 1).toNat < 24 - ((k : Nat) : Int).toNat
                      omega
                    · exact AllReadyH.nil
                · exact AllReadyH.nil
      · have hj24 : ¬ ((k : Int) < 24) := by omega
        have hji : (k : Int) < (N : Int) := by omega
        have hm : MadeMem w ((xs.take k).foldl stpM [[], [], []]) w1 := ⟨hT, hWd, hb⟩
        clear hT hWd hb
        obtain ⟨hT, hWd, hb⟩ := hm
        have HE := hide (show (xs.take k).foldl stpM [[], [], []] = madL xs by unfold madL; rw [show k = 24 from by omega])
        rw [HE.out] at hT
        have HF := hide (And.intro hT hb)
        clear hT hWd hb
        go_wp2
        go_ret
        exact ⟨rfl, HF.out.1, HF.out.2⟩
    · have hji : ¬ ((k : Int) < (N : Int)) := by omega
      have hm : MadeMem w ((xs.take k).foldl stpM [[], [], []]) w1 := ⟨hT, hWd, hb⟩
      clear hT hWd hb
      obtain ⟨hT, hWd, hb⟩ := hm
      have HE := hide (show (xs.take k).foldl stpM [[], [], []] = madL xs by unfold madL; rw [List.take_of_length_le (by have := HL.out; omega), List.take_of_length_le (by have := HL.out; omega)])
      rw [HE.out] at hT
      have HF := hide (And.intro hT hb)
      clear hT hWd hb
      go_wp2
      go_ret
      exact ⟨rfl, HF.out.1, HF.out.2⟩
end Go.Proofs.YtcfbgelhggapjaaGreatDoor
