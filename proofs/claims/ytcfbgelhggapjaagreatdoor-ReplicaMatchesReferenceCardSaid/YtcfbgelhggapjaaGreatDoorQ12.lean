/- Replica: the reference's Behind. -/
import Derived.Test.YtcfbgelhggapjaaGreatDoorQ11
namespace Go.Proofs.YtcfbgelhggapjaaGreatDoor
open Go.RowKit Go.Shelf
theorem newL_succ (a b : List Rc) (i : Nat) (h : i < b.length) : newL a (b.take (i + 1)) = if (fdR (keyR (b[i]'h)) a).isNone then newL a (b.take i) ++ [b[i]'h] else newL a (b.take i) := by
  unfold newL
  rw [List.take_succ_eq_append_getElem h, List.filter_append]
  by_cases e : (fdR (keyR (b[i]'h)) a).isNone = true
  · rw [if_pos e]; simp [e]
  · rw [if_neg e]; simp [e]
theorem newL_le (a b : List Rc) : (newL a b).length ≤ b.length := List.length_filter_le _ _
set_option linter.unusedSimpArgs false in
set_option maxRecDepth 100000 in
set_option maxHeartbeats 8000000 in
theorem c_rBehind (p : Int) (A : Option Addr) (N c : Nat) (l : List Rc) (q : Int) (B : Option Addr) (M d : Nat) (k : List Rc) (w : World) (hN : N ≤ 9223372036854775807) (hM : M ≤ 9223372036854775807) (hr : SlR w w.heap.size 7 A N (l.flatMap cR)) (hs : SlR w w.heap.size 7 B M (k.flatMap cR)) :
    Calls Tryz.prog 29 #[rpV p A N c, rpV q B M d] w (BehPost (behM p l q k) w) := by
  have hb0 := balloc (balloc (Below.refl w.heap.size w) (.cells #[.int .i64 p, .slice A N c] 25)) (.cells #[.int .i64 q, .slice B M d] 25)
  obtain ⟨w0, hw0⟩ : ∃ w0, (w.alloc (.cells #[.int .i64 p, .slice A N c] 25)).alloc (.cells #[.int .i64 q, .slice B M d] 25) = w0 := ⟨_, rfl⟩
  have gR : Blk w0 w.heap.size 25 [.int .i64 p, .slice A N c] := by rw [← hw0]; exact (Blk.new w 25 [.int .i64 p, .slice A N c]).alloc _
  have gQ : Blk w0 (w.heap.size + 1) 25 [.int .i64 q, .slice B M d] := by
    rw [← hw0]
    have := Blk.new (w.alloc (.cells #[.int .i64 p, .slice A N c] 25)) 25 [.int .i64 q, .slice B M d]
    rw [show (w.alloc (.cells #[.int .i64 p, .slice A N c] 25)).heap.size = w.heap.size + 1 from by simp] at this
    exact this
  rw [hw0] at hb0
  have HW0 := hide hw0
  have HL := hide (And.intro hr.lenR hs.lenR)
  have hv1 := c_rValid p A N c l w0 (hr.to' hb0) hN
  have HH : Hid (∀ W, Below w0.heap.size w0 W → Blk W w.heap.size 25 [.int .i64 p, .slice A N c] ∧ Blk W (w.heap.size + 1) 25 [.int .i64 q, .slice B M d] ∧ SlR W W.heap.size 7 A N (l.flatMap cR) ∧ SlR W W.heap.size 7 B M (k.flatMap cR) ∧ Below w.heap.size w W) := hide (fun W h => ⟨gR.below h gR.lt, gQ.below h gQ.lt, hr.to' (bthen hb0 h), hs.to' (bthen hb0 h), bthen hb0 h⟩)
  have hv2 := fun (w1 : World) (h : Below w0.heap.size w0 w1) => c_rValid q B M d k w1 (HH.out w1 h).2.2.2.1 hM
  unfold rpV at hv2
  have HV2 := hide hv2
  obtain ⟨r0, r1⟩ := gR.two
  obtain ⟨q0, q1⟩ := gQ.two
  have HS0 : Hid (w.heap.size + 1 < w0.heap.size) := hide gQ.lt
  have hl1 := gQ.lt
  have hl0 := gR.lt
  unfold rpV
  unfold rpV at hv1
  clear hr hs hw0 gR gQ hb0 hv2
  cases hva : vrB p l with
  | false =>
    rw [hva] at hv1
    have HE := hide (show behM p l q k = none by unfold behM mgOk; rw [hva]; rfl)
    clear hva
    go_enter Tryz.func29, Tryz.ntmps29
    go_wp2_with (go_at_call 17; rw [HW0.out]; refine hv1.mono ?_; clear hv1 r0 r1 q0 q1; rintro e w1 ⟨rfl, hb1⟩)
    go_ret2
    exact ⟨(HH.out _ hb1).2.2.2.2, .inl ⟨HE.out, rfl⟩⟩
  | true =>
    rw [hva] at hv1
    cases hvb : vrB q k with
    | false =>
      have HE := hide (show behM p l q k = none by unfold behM mgOk; rw [hva, hvb]; rfl)
      rw [hvb] at HV2
      clear hva hvb
      go_enter Tryz.func29, Tryz.ntmps29
      go_wp2_with (first | (go_at_call 17; rw [HW0.out]; refine hv1.mono ?_; clear hv1 r0 r1 q0 q1; rintro e w1 ⟨rfl, hb1⟩; have hv3 := HV2.out w1 hb1; obtain ⟨s0, s1⟩ := (HH.out _ hb1).2.1.two; have hl2 := (HH.out _ hb1).2.1.lt; have H1 := hide hb1; clear hb1) | (go_at_call 17; with_reducible refine hv3.mono ?_; clear hv3 s0 s1; rintro e w2 ⟨rfl, hb2⟩))
      go_ret2
      exact ⟨(HH.out _ (bthen H1.out hb2)).2.2.2.2, .inl ⟨HE.out, rfl⟩⟩
    | true =>
      rw [hvb] at HV2
      have HVa := hide (vr_iff.1 hva)
      have HVb := hide (vr_iff.1 hvb)
      have HE := hide (show behM p l q k = if conB l k = false ∧ l.length + (newL l k).length ≤ 150 then some (newL l k) else none by
        unfold behM mgOk
        rw [hva, hvb]
        cases conB l k <;> by_cases h : l.length + (newL l k).length ≤ 150 <;> simp [h])
      have hM150 : M ≤ 150 := by have := HVb.out.2.1; have := HL.out.2; omega
      have hN150 : N ≤ 150 := by have := HVa.out.2.1; have := HL.out.1; omega
      clear hva hvb
      go_enter Tryz.func29, Tryz.ntmps29
      go_wp2_with (first | (go_at_call 17; rw [HW0.out]; refine hv1.mono ?_; clear hv1 r0 r1 q0 q1; rintro e w1 ⟨rfl, hb1⟩; have hv3 := HV2.out w1 hb1; obtain ⟨s0, s1⟩ := (HH.out _ hb1).2.1.two; have hl2 := (HH.out _ hb1).2.1.lt; have H1 := hide hb1; clear hb1) | (go_at_call 17; with_reducible refine hv3.mono ?_; clear hv3 s0 s1; rintro e w2 ⟨rfl, hb2⟩; have H2 := hide (bthen H1.out hb2); clear hb2))
      have HB := hide (HH.out _ H2.out).2.2.2.2
      have HW2 : Hid (∀ W, Below w2.heap.size w2 W → Blk W w.heap.size 25 [.int .i64 p, .slice A N c] ∧ Blk W (w.heap.size + 1) 25 [.int .i64 q, .slice B M d] ∧ SlR W W.heap.size 7 A N (l.flatMap cR) ∧ SlR W W.heap.size 7 B M (k.flatMap cR) ∧ Below w.heap.size w W) := hide (fun W h => HH.out W (bthen H2.out h))
      go_loopw [6, 7] (fun v i wr => ∃ j : Nat, j ≤ M ∧ i = .int .i64 j ∧ wr.ownsRow w2.heap.size 49 7 v (newL l (k.take j)).length ((newL l (k.take j)).flatMap cR) ∧ Hid (∀ r ∈ k.take j, ∀ x, fdR (keyR r) l = some x → x = r) ∧ Below w2.heap.size w2 wr) (fun _ i _ => M - (intOf i).toNat)
      case atStart => exact ⟨0, Nat.zero_le _, rfl, World.ownsRow_nil _ _ _ _, hide (fun r hr => by simp at hr), Below.refl _ _⟩
      case round =>
        obtain ⟨j, hj, rfl, hown, hok, hb⟩ := hrel
        obtain ⟨gR, gQ, hsl, hsm, hbw⟩ := HW2.out wr hb
        obtain ⟨r0, r1⟩ := gR.two
        obtain ⟨q0, q1⟩ := gQ.two
        have hlr := gR.lt
        have hlq := gQ.lt
        by_cases hlt : j < M
        · have hjk : j < k.length := by have := HL.out.2; omega
          obtain ⟨b', off, rfl, hbb⟩ := hsm.some_of (by omega)
          obtain ⟨z0, z1, z2, z3, z4, z5, z6⟩ := hsm.bwR hjk
          obtain ⟨v0, v1⟩ := gR.bw2
          obtain ⟨u0, u1⟩ := gQ.bw2
          have hji : (j : Int) < (M : Int) := by omega
          have hcF : ∀ x : BW wr, Calls Tryz.prog 38 #[.slice A N c, .int .i64 (k[j]'hjk).pen, .int .i64 (k[j]'hjk).num] x.val fun e w' => e = .returned (.int .i64 (fdI (keyR (k[j]'hjk)) l)) ∧ x.val = w' := fun x => c_rFind A N c l _ _ x.val hN (hsl.to' x.ok)
          have HNS := hide (newL_succ l k j hjk)
          have HTK := hide (List.take_succ_eq_append_getElem hjk)
          have HOwn := hide hown
          have HOk := hide hok
          have HB5 := hide hb
          have HC := hide (fun (W : World) (h : Below wr.heap.size wr W) => (hsm.cellsR h hjk).2)
          have hk0 := fdI_cases (keyR (k[j]'hjk)) l
          have HK0 := hide hk0
          clear hk0
          generalize k[j]'hjk = r at *
          clear hown hok hb gR gQ hsl hsm hbw
          go_wp2_with fail
          refine wp_region_bw wr (Below.refl _ _) (by kernel_rfl) (by kernel_rfl) ?_
          repeat (go_big_quiet_step ((go_at_call 38; exact bw_same (hcF _))))
          refine wpQuiet_nil ?_
          intro W3 hb3
          have h3 := bthen HB5.out hb3
          obtain ⟨gR, gQ, hsl, hsm, hbw⟩ := HW2.out W3 h3
          obtain ⟨r0, r1⟩ := gR.two
          obtain ⟨q0, q1⟩ := gQ.two
          have hlr := gR.lt
          have hlq := gQ.lt
          obtain ⟨y0, y1, y2, y3, y4, y5, y6⟩ := HC.out W3 hb3
          have hbb3 : b' < W3.heap.size := Nat.lt_of_lt_of_le hbb hb3.size
          have HB3 := hide h3
          have HO3 := hide (own_to HOwn.out hb3)
          rcases HK0.out with ⟨g1, g2⟩ | ⟨i, hi, g0, g1, g2⟩
          · rw [g2]
            have HN1 := hide (HNS.out.trans (if_pos (by rw [g1]; rfl)))
            have HOK1 : Hid (∀ s ∈ k.take (j + 1), ∀ x, fdR (keyR s) l = some x → x = s) := hide (fun s hs x hx => by
              rw [HTK.out] at hs
              rcases List.mem_append.1 hs with hs | hs
              · exact HOk.out.out s hs x hx
              · rw [List.mem_singleton] at hs
                rw [hs, g1] at hx
                cases hx)
            obtain ⟨j0, hj0, hz0, hz1, hz2⟩ := info_parts Tryz.infoRec
            obtain ⟨Av, cv, rfl, _, _, _⟩ := SlR.of_own HO3.out
            have hml : (newL l (k.take j)).length ≤ 150 := by have := newL_le l (k.take j); rw [List.length_take] at this; omega
            obtain ⟨rp, rn, rt, ro, rw', rk, rx⟩ := r
            dsimp only at y0 y1 y2 y3 y4 y5 y6
            have gA := (Blk.new W3 49 (cR ⟨rp, rn, rt, ro, rw', rk, rx⟩)).slr (k := 7) (n := 1) rfl
            generalize newL l (k.take j) = mo at *
            have hown7 := HO3.out.alloc (.cells #[.int .i64 rp, .int .i64 rn, .int .i64 rt, .int .i64 ro, .int .i64 rw', .int .i64 rk, .string rx] 49)
            have hws := h3.size
            clear g1 g2 gR gQ hsl hsm hbw h3 hb3 z0 z1 z2 z3 z4 z5 z6 v0 v1 u0 u1 hcF
            go_wp2_with (at_builtin; refine wpList_append_sl (size := 7) rfl _ _ 23 rfl w2.heap.size 49 j0 zV 64 Tryz.underlying23 hj0 hz0 hz1 hz2 rfl (by decide) (.slice Av mo.length cv) mo.length (mo.flatMap cR) rfl hown7 1 1 (cR ⟨rp, rn, rt, ro, rw', rk, rx⟩) rfl gA (Below.refl _ _) (fun u hu => oneR [⟨rp, rn, rt, ro, rw', rk, rx⟩] u (by simpa using hu)) (by unfold maxLen; omega) (by omega) (by simp; omega) ?_; intro v8 w8 hown8 hgrow8 hor8; have HN8 := hide (And.intro hown8 hgrow8); clear hown8 hgrow8 hor8 hown7 gA)
            obtain ⟨hown8, hgrow8⟩ := HN8.out
            have hw1 : wrap64 ((j : Int) + 1) = ((j + 1 : Nat) : Int) := (Go.IntWalk.wrap64_in _ (by omega)).trans rfl
            try rw [hw1]
            clear hw1
            refine ⟨⟨j + 1, hlt, rfl, ?_, HOK1, ?_⟩, ?_⟩
            · rw [HN1.out, List.length_append, List.flatMap_append]
              simpa using hown8
            · exact bgrown (balloc HB3.out _) hgrow8 (own_ge HO3.out)
            · show M - ((j : Int) + 1).toNat < M - ((j : Nat) : Int).toNat
              omega
          · have hiN : i < N := by have := HL.out.1; omega
            rw [g2]
            obtain ⟨ba, offa, rfl, hba⟩ := hsl.some_of (by omega)
            obtain ⟨a0, a1, a2, a3, a4, a5, a6⟩ := hsl.bwR hi
            obtain ⟨v0, v1⟩ := gR.bw2
            obtain ⟨u0, u1⟩ := gQ.bw2
            have hii : (i : Int) < (N : Int) := by omega
            have hiz : ¬ ((i : Int) < 0) := by omega
            have c0 := fun x : BW W3 => (HC.out x.val (bthen hb3 x.ok)).1
            have c1 := fun x : BW W3 => (HC.out x.val (bthen hb3 x.ok)).2.1
            have c2 := fun x : BW W3 => (HC.out x.val (bthen hb3 x.ok)).2.2.1
            have c3 := fun x : BW W3 => (HC.out x.val (bthen hb3 x.ok)).2.2.2.1
            have c4 := fun x : BW W3 => (HC.out x.val (bthen hb3 x.ok)).2.2.2.2.1
            have c5 := fun x : BW W3 => (HC.out x.val (bthen hb3 x.ok)).2.2.2.2.2.1
            have c6 := fun x : BW W3 => (HC.out x.val (bthen hb3 x.ok)).2.2.2.2.2.2
            have HG1 := hide g1
            have HG0 := hide g0
            clear g0 g1 g2 gR gQ hsl hsm hbw h3 hb3 z0 z1 z2 z3 z4 z5 z6 hcF y0 y1 y2 y3 y4 y5 y6
            have hneq := fun w => neqRc w (l[i]'hi) r
            generalize l[i]'hi = x at *
            obtain ⟨xp, xn, xt, xo, xw, xk, xx⟩ := x
            obtain ⟨rp, rn, rt, ro, rw', rk, rx⟩ := r
            unfold rcV at hneq
            dsimp only at a0 a1 a2 a3 a4 a5 a6 c0 c1 c2 c3 c4 c5 c6 hneq
            by_cases hxr : (⟨xp, xn, xt, xo, xw, xk, xx⟩ : Rc) = ⟨rp, rn, rt, ro, rw', rk, rx⟩
            · have HX := hide hxr
              have hq : ∀ w, (binOp .neq 49 (.agg #[.int .i64 xp, .int .i64 xn, .int .i64 xt, .int .i64 xo, .int .i64 xw, .int .i64 xk, .string xx]) (.agg #[.int .i64 rp, .int .i64 rn, .int .i64 rt, .int .i64 ro, .int .i64 rw', .int .i64 rk, .string rx])).run Tryz.prog w = .ok (.bool false) w := fun w => by rw [hneq w, decide_eq_true hxr]; rfl
              clear hneq hxr
              go_wp2_with fail
              refine wp_region_bw W3 (Below.refl _ _) (by kernel_rfl) (by kernel_rfl) ?_
              repeat (go_big_quiet_step (fail))
              refine wpQuiet_nil ?_
              intro W4 hb4
              go_wp2_with fail
              have HN1 := hide (HNS.out.trans (if_neg (by rw [HG1.out]; simp)))
              have HOK1 : Hid (∀ s ∈ k.take (j + 1), ∀ x, fdR (keyR s) l = some x → x = s) := hide (fun s hs x hx => by
                rw [HTK.out] at hs
                rcases List.mem_append.1 hs with hs | hs
                · exact HOk.out.out s hs x hx
                · rw [List.mem_singleton] at hs
                  rw [hs, HG1.out] at hx
                  rw [hs, ← HX.out]
                  exact (Option.some.inj hx).symm)
              have hw1 : wrap64 ((j : Int) + 1) = ((j + 1 : Nat) : Int) := (Go.IntWalk.wrap64_in _ (by omega)).trans rfl
              try rw [hw1]
              clear hw1
              refine ⟨⟨j + 1, hlt, rfl, by rw [HN1.out]; exact own_to HO3.out hb4, HOK1, bthen HB3.out hb4⟩, ?_⟩
              show M - ((j : Int) + 1).toNat < M - ((j : Nat) : Int).toNat
              omega
            · have HX := hide hxr
              have hq : ∀ w, (binOp .neq 49 (.agg #[.int .i64 xp, .int .i64 xn, .int .i64 xt, .int .i64 xo, .int .i64 xw, .int .i64 xk, .string xx]) (.agg #[.int .i64 rp, .int .i64 rn, .int .i64 rt, .int .i64 ro, .int .i64 rw', .int .i64 rk, .string rx])).run Tryz.prog w = .ok (.bool true) w := fun w => by rw [hneq w, decide_eq_false hxr]; rfl
              clear hneq hxr
              go_wp2_with fail
              refine wp_region_bw W3 (Below.refl _ _) (by kernel_rfl) (by kernel_rfl) ?_
              repeat (go_big_quiet_step (fail))
              refine wpQuiet_nil ?_
              intro W4 hb4
              go_wp2_with fail
              go_ret2
              have hrk : (⟨rp, rn, rt, ro, rw', rk, rx⟩ : Rc) ∈ k := List.mem_of_mem_take (i := j + 1) (by rw [HTK.out]; simp)
              have hnc : ¬ (conB l k = false ∧ l.length + (newL l k).length ≤ 150) := fun h => HX.out ((con_iff HVa.out.2.2.nd).1 h.1 _ ((fd_iff HVa.out.2.2.nd).1 HG1.out).1 _ hrk ((fd_iff HVa.out.2.2.nd).1 HG1.out).2)
              exact ⟨bthen HB.out (bthen HB3.out hb4), .inl ⟨HE.out.trans (if_neg hnc), rfl⟩⟩
        · obtain rfl : j = M := by omega
          have hkt : k.take j = k := by rw [← HL.out.2, List.take_length]
          rw [hkt] at hown hok
          have hcon : conB l k = false := (con_iff HVa.out.2.2.nd).2 fun x hx y hy e => hok.out y hy x ((fd_iff HVa.out.2.2.nd).2 ⟨hx, e⟩)
          obtain ⟨Av, cv, rfl, h1, h2, _⟩ := SlR.of_own hown
          have hml : (newL l k).length ≤ 150 := by have := newL_le l k; have := HL.out.2; omega
          have hE := HE.out
          rw [hcon, HL.out.1] at hE
          generalize newL l k = m at *
          have HO := hide (And.intro hown hb)
          have H12 := hide (And.intro h1 h2)
          clear hown hb hok hcon gR gQ hsl hsm hbw h1 h2 hkt
          by_cases hle : N + m.length ≤ 150
          · have hE2 := hide (hE.trans (if_pos ⟨rfl, hle⟩))
            have hd1 : ¬ ((150 : Int) < (N : Int) + (m.length : Int)) := by omega
            clear hE
            go_wp2
            go_ret2
            exact ⟨bthen HB.out HO.out.2, .inr ⟨m, Av, cv, hE2.out, rfl, H12.out.1, by have := H12.out.2; unfold maxLen at this; omega, (own_sln HO.out.1).mono HB.out.size⟩⟩
          · have hE2 := hide (hE.trans (if_neg (fun h => hle h.2)))
            have hd1 : ((150 : Int) < (N : Int) + (m.length : Int)) := by omega
            clear hE
            go_wp2
            go_ret2
            exact ⟨bthen HB.out HO.out.2, .inl ⟨hE2.out, rfl⟩⟩
end Go.Proofs.YtcfbgelhggapjaaGreatDoor
/- Plain words on replicas: putting a record into an ordered list (the reference's ordered). No program here. -/
namespace Go.Proofs.YtcfbgelhggapjaaGreatDoor
theorem ins_srt {s : List Rc} {x : Rc} {j : Nat} (hs : s.Pairwise (fun a b => bfB a b = true)) (hj : j ≤ s.length) (h1 : ∀ y ∈ s.drop j, bfB x y = true) (h2 : ∀ (h : 0 < j), bfB x (s[j - 1]'(by omega)) = false)
    (hk : ∀ y ∈ s, keyR y ≠ keyR x) : (s.take j ++ x :: s.drop j).Pairwise (fun a b => bfB a b = true) := by
  have hs' := hs
  rw [← List.take_append_drop j s, List.pairwise_append] at hs'
  obtain ⟨p1, p2, p3⟩ := hs'
  rw [List.pairwise_append]
  refine ⟨p1, List.pairwise_cons.2 ⟨h1, p2⟩, fun a ha b hb => ?_⟩
  rcases List.mem_cons.1 hb with rfl | hb
  · obtain ⟨i, hi, rfl⟩ := List.mem_take_iff_getElem.1 ha
    have hij : i < j := by omega
    have hjl : j - 1 < s.length := by omega
    have e := lt_of_le (h2 (by omega)) (hk _ (List.getElem_mem hjl))
    by_cases he : i = j - 1
    · subst he; exact e
    · exact bf_trans ((List.pairwise_iff_getElem.1 hs) i (j - 1) (by omega) hjl (by omega)) e
  · exact p3 a ha b hb
theorem ord_step {l : List Rc} (hn : (l.map keyR).Nodup) {i : Nat} (hi : i < l.length) {j : Nat} (hj : j ≤ (ordL (l.take i)).length) (h1 : ∀ y ∈ (ordL (l.take i)).drop j, bfB (l[i]'hi) y = true)
    (h2 : ∀ (h : 0 < j), bfB (l[i]'hi) ((ordL (l.take i))[j - 1]'(by omega)) = false) : (ordL (l.take i)).take j ++ (l[i]'hi) :: (ordL (l.take i)).drop j = ordL (l.take (i + 1)) := by
  have hsub : ∀ k, ((l.take k).map keyR).Nodup := fun k => hn.sublist ((List.take_sublist k l).map _)
  have hkey : ∀ y ∈ ordL (l.take i), keyR y ≠ keyR (l[i]'hi) := fun y hy e => by
    obtain ⟨t, ht, rfl⟩ := List.mem_take_iff_getElem.1 (mem_ord.1 hy)
    have hp := List.pairwise_map.1 hn
    exact (List.pairwise_iff_getElem.1 hp) t i (by omega) hi (by omega) e
  refine ord_uniq (hsub (i + 1)) (ins_srt (ord_srt (hsub i)) hj h1 h2 hkey) fun r => ?_
  rw [List.take_succ_eq_append_getElem hi, List.mem_append, List.mem_append, List.mem_cons, List.mem_singleton]
  rw [← mem_ord (l := l.take i)]
  constructor
  · rintro (h | h | h)
    · exact .inl (List.mem_of_mem_take h)
    · exact .inr h
    · exact .inl (List.mem_of_mem_drop h)
  · rintro (h | h)
    · rw [← List.take_append_drop j (ordL (l.take i)), List.mem_append] at h
      rcases h with h | h
      · exact .inl h
      · exact .inr (.inr h)
    · exact .inr (.inl h)
end Go.Proofs.YtcfbgelhggapjaaGreatDoor
/- Replica: the reference's ordered. -/
namespace Go.Proofs.YtcfbgelhggapjaaGreatDoor
open Go.RowKit Go.Shelf
set_option linter.unusedSimpArgs false in
set_option maxRecDepth 100000 in
set_option maxHeartbeats 8000000 in
theorem c_rordered (A : Option Addr) (N c : Nat) (l : List Rc) (w : World) (hnd : (l.map keyR).Nodup) (hN : N ≤ 150) (hr : SlR w w.heap.size 7 A N (l.flatMap cR)) :
    Calls Tryz.prog 47 #[.slice A N c] w fun e w' => ∃ v, e = .returned v ∧ w'.ownsRow w.heap.size 49 7 v N ((ordL l).flatMap cR) ∧ Below w.heap.size w w' := by
  have HL := hide hr.lenR
  have HND := hide hnd
  obtain ⟨j0, hj0, hz0, hz1, hz2⟩ := info_parts Tryz.infoRec
  clear hnd
  go_enter Tryz.func47, Tryz.ntmps47
  go_wp2
  go_loopw [3, 4] (fun v i wr => ∃ k : Nat, k ≤ N ∧ i = .int .i64 k ∧ wr.ownsRow w.heap.size 49 7 v k ((ordL (l.take k)).flatMap cR) ∧ Below w.heap.size w wr) (fun _ i _ => N - (intOf i).toNat)
  case atStart => exact ⟨0, Nat.zero_le _, rfl, by rw [show ordL (l.take 0) = [] from by simp [ordL]]; exact World.ownsRow_nil _ _ _ _, Below.refl _ _⟩
  case round =>
    obtain ⟨k, hk, rfl, hown, hb⟩ := hrel
    obtain ⟨Av, cv, rfl, hv1, hv2, hv3⟩ := SlR.of_own hown
    by_cases hlt : k < N
    · have hkl : k < l.length := by have := HL.out; omega
      have hsk : (ordL (l.take k)).length = k := by rw [(ord_perm _).length_eq, List.length_take]; omega
      obtain ⟨b, off, rfl, hbb⟩ := hr.some_of (by omega)
      have hji : (k : Int) < (N : Int) := by omega
      have hst : ∀ s : List Rc, ordL (l.take k) = s → ∀ j (hj : j ≤ s.length), (∀ y ∈ s.drop j, bfB (l[k]'hkl) y = true) → (∀ (h : 0 < j), bfB (l[k]'hkl) (s[j - 1]'(by omega)) = false) → s.take j ++ (l[k]'hkl) :: s.drop j = ordL (l.take (k + 1)) := by
        rintro s rfl j hj
        exact ord_step HND.out hkl hj
      obtain ⟨s, hs⟩ : ∃ s, ordL (l.take k) = s := ⟨_, rfl⟩
      have HST := hide (hst s hs)
      rw [hs] at hown hv3 hsk
      have HO := hide (And.intro hown hb)
      clear hst hs
      clear hown hb hv3
      go_wp2_with fail
      go_loopw [5] (fun v wx => ∃ j : Nat, j ≤ k ∧ v = .int .i64 j ∧ Hid (∀ y ∈ s.drop j, bfB (l[k]'hkl) y = true) ∧ Below wr.heap.size wr wx) (fun v _ => (intOf v).toNat)
      case atStart => exact ⟨k, Nat.le_refl _, rfl, hide (fun y hy => by rw [List.drop_eq_nil_of_le (by omega)] at hy; cases hy), Below.refl _ _⟩
      case round =>
        obtain ⟨j, hj, rfl, hall, hbx⟩ := hrel
        have hlx := hr.to' (bthen HO.out.2 hbx)
        have hox := own_to HO.out.1 hbx
        have hsx := (own_row hox).2.2
        have HX := hide (And.intro hall (And.intro hbx hox))
        obtain ⟨z0, z1, z2, z3, z4, z5, z6⟩ := hlx.bwR hkl
        have hjk0 : j = 0 ∨ ∃ t, j = t + 1 := by cases j with | zero => exact .inl rfl | succ t => exact .inr ⟨t, rfl⟩
        rcases hjk0 with h0 | ⟨t, rfl⟩
        · have hd0 : ¬ ((0 : Int) < (j : Int)) := by omega
          have hd1 : decide (0 < j) = false := decide_eq_false (by omega)
          have H0 := hide h0
          clear h0
          clear hall hbx hlx hox hsx
          go_wp2_with fail
          refine wp_region_bw wr (Below.refl _ _) (by kernel_rfl) (by kernel_rfl) ?_
          repeat (go_big_quiet_step (fail))
          refine wpQuiet_nil ?_
          intro W2 hb2
          have hW := bthen HX.out.2.1 hb2
          have hbw2 := bthen HO.out.2 hW
          have hsl2 := (own_row (own_to HX.out.2.2 hb2)).2.2
          have hl2 := hr.to' hbw2
          obtain ⟨A1, hs1, hr1⟩ := hsl2.cutHi hv1 (k := j) (by omega) 23 49 j0 Tryz.underlying23 hj0
          obtain ⟨A2, hs2, hr2⟩ := hsl2.cutLo hv1 (k := j) (by omega) 23 49 j0 Tryz.underlying23 hj0 hz1
          rw [flatR_take] at hs1
          rw [flatR_drop] at hs2
          have HC := hide (fun (W : World) (h : Below W2.heap.size W2 W) => (hl2.cellsR h hkl).2)
          have HS2 : Hid (∀ W, Below W2.heap.size W2 W → SlR W W2.heap.size 7 A2 (k - j) ((s.drop j).flatMap cR)) := hide (fun W h => hs2.below h)
          have HFin := hide (HST.out j (by omega) HX.out.1.out (fun h => absurd h (by have := H0.out; omega)))
          have HBW := hide hbw2
          have hbb2 : b < W2.heap.size := Nat.lt_of_lt_of_le hbb hbw2.size
          have hkc : ((j : Nat) : Int) ≤ (k : Int) := by omega
          generalize l[k]'hkl = x at *
          obtain ⟨rp, rn, rt, ro, rw', rk, rx⟩ := x
          dsimp only at HC
          clear hW hbw2 hsl2 hl2 hs2
          go_wp2_with (first | (at_builtin; refine wpList_append_sl (size := 7) (w0 := W2) (B := W2.heap.size) rfl _ _ 23 rfl W2.heap.size 49 j0 zV 64 Tryz.underlying23 hj0 hz0 hz1 hz2 rfl (by decide) (.slice none 0 0) 0 [] rfl (World.ownsRow_nil _ _ _ _) j cv ((s.take j).flatMap cR) rfl hs1 (Below.refl _ _) (fun u hu => oneR _ u hu) (by unfold maxLen; omega) (by omega) (by omega) ?_; intro v6 w6 hown6 hgrow6 hor6; rw [Nat.zero_add, List.nil_append] at hown6; have hb6 : Below W2.heap.size W2 w6 := (Below.refl _ _).grown hgrow6 (Nat.le_refl _) (fun j e => by cases e); have hl6 : W2.heap.size ≤ w6.heap.size := hb6.size; obtain ⟨y0, y1, y2, y3, y4, y5, y6⟩ := HC.out w6 hb6; have hg0 : b < w6.heap.size := (by omega); obtain ⟨Aw6, cw6, rfl, hcv1, hcv2, _⟩ := SlR.of_own hown6; clear hgrow6 hor6 hs1; have gA := (Blk.new w6 49 (cR ⟨rp, rn, rt, ro, rw', rk, rx⟩)).slr (k := 7) (n := 1) rfl) |
            (at_builtin; refine wpList_append_sl (size := 7) rfl _ _ 23 rfl W2.heap.size 49 j0 zV 64 Tryz.underlying23 hj0 hz0 hz1 hz2 rfl (by decide) (.slice Aw6 j cw6) j ((s.take j).flatMap cR) rfl (hown6.alloc _) 1 1 (cR ⟨rp, rn, rt, ro, rw', rk, rx⟩) rfl gA (Below.refl _ _) (fun u hu => oneR [⟨rp, rn, rt, ro, rw', rk, rx⟩] u (by simpa using hu)) (by unfold maxLen; omega) (by omega) (by simp; omega) ?_; intro v7 w7 hown7 hgrow7 hor7; have hb7 : Below W2.heap.size W2 w7 := (hb6.alloc hl6 _).grown hgrow7 (by simp; omega) (own_ge hown6); have hl7 : W2.heap.size ≤ w7.heap.size := hb7.size; obtain ⟨Aw, cw, rfl, hcw1, hcw2, _⟩ := SlR.of_own hown7; have hsl2 := HS2.out w7 hb7; clear hgrow7 hor7 hown6 y0 y1 y2 y3 y4 y5 y6 gA hb6) |
            (at_builtin; refine wpList_append_sl (size := 7) (w0 := w7) (B := W2.heap.size) rfl _ _ 23 rfl W2.heap.size 49 j0 zV 64 Tryz.underlying23 hj0 hz0 hz1 hz2 rfl (by decide) (.slice Aw (j + 1) cw) (j + 1) ((s.take j).flatMap cR ++ cR ⟨rp, rn, rt, ro, rw', rk, rx⟩) rfl hown7 (k - j) (cv - j) ((s.drop j).flatMap cR) rfl hsl2 (Below.refl _ _) (fun u hu => oneR _ u hu) (by unfold maxLen; omega) (by omega) (by omega) ?_; intro v8 w8 hown8 hgrow8 hor8; have hb8 : Below W2.heap.size W2 w8 := hb7.grown hgrow8 hl7 (own_ge hown7); have HO8 := hide (And.intro hown8 hb8); clear hgrow8 hor8 hown7 hsl2 hown8 hb8))
          obtain ⟨hown8, hb8⟩ := HO8.out
          have h := own_mono hown8 HBW.out.size
          rw [show j + 1 + (k - j) = k + 1 by omega, List.append_assoc] at h
          refine ⟨⟨k + 1, hlt, rfl, by rw [← HFin.out, List.flatMap_append, List.flatMap_cons]; exact h, bthen HBW.out hb8⟩, ?_⟩
          show N - ((k : Int) + 1).toNat < N - ((k : Nat) : Int).toNat
          omega
        · have hts : t < s.length := by omega
          obtain ⟨bs, offs, rfl, hbs⟩ := hsx.some_of (by omega)
          obtain ⟨y0, y1, y2, y3, y4, y5, y6⟩ := hsx.bwR hts
          have hcB : ∀ x : BW wr, Calls Tryz.prog 39 #[rcV (l[k]'hkl), rcV (s[t]'hts)] x.val fun e w' => e = .returned (.bool (bfB (l[k]'hkl) (s[t]'hts))) ∧ Below x.val.heap.size x.val w' := fun x => c_rBefore _ _ x.val
          unfold rcV at hcB
          have htk : (t : Int) < (k : Int) := by omega
          cases hbf : bfB (l[k]'hkl) (s[t]'hts) with
          | true =>
            rw [hbf] at hcB
            have HAll : Hid (∀ y ∈ s.drop t, bfB (l[k]'hkl) y = true) := hide (fun y hy => by
              rw [List.drop_eq_getElem_cons hts] at hy
              rcases List.mem_cons.1 hy with rfl | hy
              · exact hbf
              · exact HX.out.1.out y hy)
            clear hall hbx hlx hox hsx hbf
            go_wp2_with fail
            refine wp_region_bw wr (Below.refl _ _) (by kernel_rfl) (by kernel_rfl) ?_
            repeat (go_big_quiet_step ((go_at_call 39; exact bw_call (hcB _))))
            refine wpQuiet_nil ?_
            intro W2 hb2
            go_wp2_with fail
            exact ⟨⟨t, by omega, rfl, HAll, bthen HX.out.2.1 hb2⟩, by simp [intOf]⟩
          | false =>
            rw [hbf] at hcB
            have HBf := hide hbf
            clear hall hbx hlx hox hsx hbf
            go_wp2_with fail
            refine wp_region_bw wr (Below.refl _ _) (by kernel_rfl) (by kernel_rfl) ?_
            repeat (go_big_quiet_step ((go_at_call 39; exact bw_call (hcB _))))
            refine wpQuiet_nil ?_
            intro W2 hb2
            have HFin := hide (HST.out (t + 1) (by omega) HX.out.1.out (fun _ => HBf.out))
            generalize hJ : t + 1 = J at *
            have hW := bthen HX.out.2.1 hb2
            have hbw2 := bthen HO.out.2 hW
            have hsl2 := (own_row (own_to HX.out.2.2 hb2)).2.2
            have hl2 := hr.to' hbw2
            obtain ⟨A1, hs1, hr1⟩ := hsl2.cutHi hv1 (k := J) (by omega) 23 49 j0 Tryz.underlying23 hj0
            obtain ⟨A2, hs2, hr2⟩ := hsl2.cutLo hv1 (k := J) (by omega) 23 49 j0 Tryz.underlying23 hj0 hz1
            rw [flatR_take] at hs1
            rw [flatR_drop] at hs2
            have HC := hide (fun (W : World) (h : Below W2.heap.size W2 W) => (hl2.cellsR h hkl).2)
            have HS2 : Hid (∀ W, Below W2.heap.size W2 W → SlR W W2.heap.size 7 A2 (k - (J)) ((s.drop (J)).flatMap cR)) := hide (fun W h => hs2.below h)
            have HBW := hide hbw2
            have hbb2 : b < W2.heap.size := Nat.lt_of_lt_of_le hbb hbw2.size
            have hkc : ((J : Nat) : Int) ≤ (k : Int) := by omega
            generalize l[k]'hkl = x at *
            obtain ⟨rp, rn, rt, ro, rw', rk, rx⟩ := x
            dsimp only at HC
            clear hW hbw2 hsl2 hl2 hs2
            go_wp2_with (first | (at_builtin; refine wpList_append_sl (size := 7) (w0 := W2) (B := W2.heap.size) rfl _ _ 23 rfl W2.heap.size 49 j0 zV 64 Tryz.underlying23 hj0 hz0 hz1 hz2 rfl (by decide) (.slice none 0 0) 0 [] rfl (World.ownsRow_nil _ _ _ _) (J) cv ((s.take (J)).flatMap cR) rfl hs1 (Below.refl _ _) (fun u hu => oneR _ u hu) (by unfold maxLen; omega) (by omega) (by omega) ?_; intro v6 w6 hown6 hgrow6 hor6; rw [Nat.zero_add, List.nil_append] at hown6; have hb6 : Below W2.heap.size W2 w6 := (Below.refl _ _).grown hgrow6 (Nat.le_refl _) (fun j e => by cases e); have hl6 : W2.heap.size ≤ w6.heap.size := hb6.size; obtain ⟨y0, y1, y2, y3, y4, y5, y6⟩ := HC.out w6 hb6; have hg0 : b < w6.heap.size := (by omega); obtain ⟨Aw6, cw6, rfl, hcv1, hcv2, _⟩ := SlR.of_own hown6; clear hgrow6 hor6 hs1; have gA := (Blk.new w6 49 (cR ⟨rp, rn, rt, ro, rw', rk, rx⟩)).slr (k := 7) (n := 1) rfl) |
              (at_builtin; refine wpList_append_sl (size := 7) rfl _ _ 23 rfl W2.heap.size 49 j0 zV 64 Tryz.underlying23 hj0 hz0 hz1 hz2 rfl (by decide) (.slice Aw6 (J) cw6) (J) ((s.take (J)).flatMap cR) rfl (hown6.alloc _) 1 1 (cR ⟨rp, rn, rt, ro, rw', rk, rx⟩) rfl gA (Below.refl _ _) (fun u hu => oneR [⟨rp, rn, rt, ro, rw', rk, rx⟩] u (by simpa using hu)) (by unfold maxLen; omega) (by omega) (by simp; omega) ?_; intro v7 w7 hown7 hgrow7 hor7; have hb7 : Below W2.heap.size W2 w7 := (hb6.alloc hl6 _).grown hgrow7 (by simp; omega) (own_ge hown6); have hl7 : W2.heap.size ≤ w7.heap.size := hb7.size; obtain ⟨Aw, cw, rfl, hcw1, hcw2, _⟩ := SlR.of_own hown7; have hsl2 := HS2.out w7 hb7; clear hgrow7 hor7 hown6 y0 y1 y2 y3 y4 y5 y6 gA hb6) |
              (at_builtin; refine wpList_append_sl (size := 7) (w0 := w7) (B := W2.heap.size) rfl _ _ 23 rfl W2.heap.size 49 j0 zV 64 Tryz.underlying23 hj0 hz0 hz1 hz2 rfl (by decide) (.slice Aw (J + 1) cw) (J + 1) ((s.take (J)).flatMap cR ++ cR ⟨rp, rn, rt, ro, rw', rk, rx⟩) rfl hown7 (k - (J)) (cv - (J)) ((s.drop (J)).flatMap cR) rfl hsl2 (Below.refl _ _) (fun u hu => oneR _ u hu) (by unfold maxLen; omega) (by omega) (by omega) ?_; intro v8 w8 hown8 hgrow8 hor8; have hb8 : Below W2.heap.size W2 w8 := hb7.grown hgrow8 hl7 (own_ge hown7); have HO8 := hide (And.intro hown8 hb8); clear hgrow8 hor8 hown7 hsl2 hown8 hb8))
            obtain ⟨hown8, hb8⟩ := HO8.out
            have h := own_mono hown8 HBW.out.size
            rw [show J + 1 + (k - J) = k + 1 by omega, List.append_assoc] at h
            refine ⟨⟨k + 1, hlt, rfl, by rw [← HFin.out, List.flatMap_append, List.flatMap_cons]; exact h, bthen HBW.out hb8⟩, ?_⟩
            show N - ((k : Int) + 1).toNat < N - ((k : Nat) : Int).toNat
            omega
    · obtain rfl : k = N := by omega
      have HO := hide (And.intro hown hb)
      clear hown hb hv3
      go_wp2
      go_ret
      have h := HO.out
      rw [← HL.out, List.take_length] at h
      rw [HL.out] at h
      exact ⟨_, rfl, h⟩
end Go.Proofs.YtcfbgelhggapjaaGreatDoor
/- Replica: the reference's family. -/
namespace Go.Proofs.YtcfbgelhggapjaaGreatDoor
open Go.RowKit Go.Shelf
/-- the records whose root is s -/
def famG (l : List Rc) (s : Rc) (i : Nat) : List Rc := (l.take i).filter (fun r => decide (keyR (rootR l r) = keyR s))
theorem famG_all {l : List Rc} (h : VL l) (s : Rc) : ordL (famG l s l.length) = famL l (keyR s) := by
  unfold famG famL
  rw [List.take_length, ord_filter _ h.nd]
theorem famG_succ (l : List Rc) (s : Rc) (i : Nat) (h : i < l.length) : famG l s (i + 1) = if keyR (rootR l (l[i]'h)) = keyR s then famG l s i ++ [l[i]'h] else famG l s i := by
  unfold famG
  rw [List.take_succ_eq_append_getElem h, List.filter_append]
  by_cases e : keyR (rootR l (l[i]'h)) = keyR s
  · rw [if_pos e]; simp [e]
  · rw [if_neg e]; simp [e]
theorem famG_len (l : List Rc) (s : Rc) (i : Nat) : (famG l s i).length ≤ i := by
  unfold famG
  refine Nat.le_trans (List.length_filter_le _ _) ?_
  rw [List.length_take]
  omega
theorem famG_nd {l : List Rc} (h : (l.map keyR).Nodup) (s : Rc) (i : Nat) : ((famG l s i).map keyR).Nodup := nd_filter _ (h.sublist ((List.take_sublist i l).map _))
theorem at_eq {l : List Rc} (h : VL l) {i j : Nat} (hi : i < l.length) (hj : j < l.length) : keyR (l[j]'hj) = keyR (l[i]'hi) ↔ j = i := by
  constructor
  · intro e
    have hs := pw_iff.1 h.srt
    rcases Nat.lt_trichotomy j i with g | g | g
    · exact absurd e (ls_ne (hs j i hj hi g))
    · exact g
    · exact absurd e.symm (ls_ne (hs i j hi hj g))
  · rintro rfl; rfl
set_option linter.unusedSimpArgs false in
set_option maxRecDepth 100000 in
set_option maxHeartbeats 8000000 in
theorem c_rfamily (A : Option Addr) (N c : Nat) (l : List Rc) (i : Nat) (w : World) (hV : VL l) (hN : N ≤ 150) (hi : i < l.length) (hr : SlR w w.heap.size 7 A N (l.flatMap cR)) :
    Calls Tryz.prog 48 #[.slice A N c, .int .i64 i] w fun e w' => ∃ v, e = .returned v ∧ w'.ownsRow w.heap.size 49 7 v (famL l (keyR l[i])).length ((famL l (keyR l[i])).flatMap cR) ∧ Below w.heap.size w w' := by
  have HL := hide hr.lenR
  have HV := hide hV
  obtain ⟨j0, hj0, hz0, hz1, hz2⟩ := info_parts Tryz.infoRec
  obtain ⟨b, off, rfl, hbb⟩ := hr.some_of (by have := HL.out; omega)
  have HS : Hid (∀ k (hk : k < l.length), ∃ (j : Nat), (keyR (rootR l (l[k]'hk)) = keyR (l[i]'hi) ↔ j = i) ∧ ∀ wr : World, SlR wr wr.heap.size 7 (some ⟨b, off, none⟩) N (l.flatMap cR) → Calls Tryz.prog 60 #[.slice (some ⟨b, off, none⟩) N c, .int .i64 k] wr fun e w' => e = .returned (.int .i64 j) ∧ Below wr.heap.size wr w') := hide (fun k hk => by
    obtain ⟨j, hj, e⟩ := List.getElem_of_mem (root_mem HV.out (List.getElem_mem hk))
    refine ⟨j, by rw [← e]; exact at_eq HV.out hi hj, fun wr h => (c_rRoot _ N c l k wr HV.out (by omega) hk h).mono ?_⟩
    rintro e' w' ⟨⟨j', hj', rfl, e2⟩, hb⟩
    obtain rfl : j' = j := (at_eq HV.out hj hj').1 (by rw [e2, e])
    exact ⟨rfl, hb⟩)
  obtain ⟨s, hs⟩ : ∃ s, l[i] = s := ⟨_, rfl⟩
  rw [hs]
  have HSS : Hid (∀ k (hk : k < l.length), ∃ (j : Nat), (keyR (rootR l (l[k]'hk)) = keyR s ↔ j = i) ∧ ∀ wr : World, SlR wr wr.heap.size 7 (some ⟨b, off, none⟩) N (l.flatMap cR) → Calls Tryz.prog 60 #[.slice (some ⟨b, off, none⟩) N c, .int .i64 k] wr fun e w' => e = .returned (.int .i64 j) ∧ Below wr.heap.size wr w') := hide (by rw [← hs]; exact HS.out)
  clear hV HS hs
  go_enter Tryz.func48, Tryz.ntmps48
  go_wp2
  go_loopw [5, 6] (fun v i' wr => ∃ k : Nat, k ≤ N ∧ i' = .int .i64 k ∧ wr.ownsRow w.heap.size 49 7 v (famG l s k).length ((famG l s k).flatMap cR) ∧ Below w.heap.size w wr) (fun _ i' _ => N - (intOf i').toNat)
  case atStart => exact ⟨0, Nat.zero_le _, rfl, World.ownsRow_nil _ _ _ _, Below.refl _ _⟩
  case round =>
    obtain ⟨k, hk, rfl, hown, hb⟩ := hrel
    obtain ⟨Av, cv, rfl, hv1, hv2, hv3⟩ := SlR.of_own hown
    have hml := famG_len l s k
    by_cases hlt : k < N
    · have hkl : k < l.length := by have := HL.out; omega
      have hji : (k : Int) < (N : Int) := by omega
      obtain ⟨j, hjk, hcR0⟩ := HSS.out k hkl
      have hcR := hcR0 wr (hr.to' hb)
      have HNS := hide (famG_succ l s k hkl)
      have HO := hide (And.intro hown hb)
      have HC := hide (fun (W : World) (h : Below wr.heap.size wr W) => ((hr.to' hb).cellsR h hkl).2)
      have hbbr : b < wr.heap.size := Nat.lt_of_lt_of_le hbb hb.size
      have hww := hb.size
      by_cases he : j = i
      · subst he
        have HN1 := hide (HNS.out.trans (if_pos (hjk.2 rfl)))
        clear hjk hcR0 hown hb hv3 HNS
        generalize l[k]'hkl = r at *
        obtain ⟨rp, rn, rt, ro, rw', rk, rx⟩ := r
        dsimp only at HC
        generalize famG l s k = mo at *
        go_wp2_with (first | (go_at_call 60; refine hcR.mono ?_; clear hcR; rintro e w3 ⟨rfl, hb3⟩; have hl3 := hb3.size; obtain ⟨y0, y1, y2, y3, y4, y5, y6⟩ := HC.out w3 hb3; have gA := (Blk.new w3 49 (cR ⟨rp, rn, rt, ro, rw', rk, rx⟩)).slr (k := 7) (n := 1) rfl; have HB3 := hide (bthen HO.out.2 hb3); have HO3 := hide (own_to HO.out.1 hb3); have hown7 := HO3.out.alloc (.cells #[.int .i64 rp, .int .i64 rn, .int .i64 rt, .int .i64 ro, .int .i64 rw', .int .i64 rk, .string rx] 49); clear hb3) |
          (at_builtin; refine wpList_append_sl (size := 7) rfl _ _ 23 rfl w.heap.size 49 j0 zV 64 Tryz.underlying23 hj0 hz0 hz1 hz2 rfl (by decide) (.slice Av mo.length cv) mo.length (mo.flatMap cR) rfl hown7 1 1 (cR ⟨rp, rn, rt, ro, rw', rk, rx⟩) rfl gA (Below.refl _ _) (fun u hu => oneR [⟨rp, rn, rt, ro, rw', rk, rx⟩] u (by simpa using hu)) (by unfold maxLen; omega) (by omega) (by simp; omega) ?_; intro v8 w8 hown8 hgrow8 hor8; have HN8 := hide (And.intro hown8 hgrow8); clear hown8 hgrow8 hor8 hown7 gA))
        obtain ⟨hown8, hgrow8⟩ := HN8.out
        have hw1 : wrap64 ((k : Int) + 1) = ((k + 1 : Nat) : Int) := (Go.IntWalk.wrap64_in _ (by omega)).trans rfl
        try rw [hw1]
        clear hw1
        refine ⟨⟨k + 1, hlt, rfl, ?_, ?_⟩, ?_⟩
        · rw [HN1.out, List.length_append, List.flatMap_append]
          simpa using hown8
        · exact bgrown (balloc HB3.out _) hgrow8 (own_ge HO3.out)
        · show N - ((k : Int) + 1).toNat < N - ((k : Nat) : Int).toNat
          omega
      · have HN1 := hide (HNS.out.trans (if_neg (fun h => he (hjk.1 h))))
        have hne : ¬ ((j : Int) = (i : Int)) := by omega
        clear hjk hcR0 hown hb hv3 HNS he
        go_wp2_with (go_at_call 60; refine hcR.mono ?_; clear hcR; rintro e w3 ⟨rfl, hb3⟩; have HB3 := hide (bthen HO.out.2 hb3); have HO3 := hide (own_to HO.out.1 hb3); clear hb3)
        have hw1 : wrap64 ((k : Int) + 1) = ((k + 1 : Nat) : Int) := (Go.IntWalk.wrap64_in _ (by omega)).trans rfl
        try rw [hw1]
        clear hw1
        refine ⟨⟨k + 1, hlt, rfl, by rw [HN1.out]; exact HO3.out, HB3.out⟩, ?_⟩
        show N - ((k : Int) + 1).toNat < N - ((k : Nat) : Int).toNat
        omega
    · obtain rfl : k = N := by omega
      have hnd := famG_nd HV.out.nd s k
      have HE := hide (show ordL (famG l s k) = famL l (keyR s) by rw [← famG_all HV.out s, HL.out])
      have hco := c_rordered Av (famG l s k).length cv (famG l s k) wr hnd (by omega) hv3
      have HB := hide hb
      clear hown hb hv3 hnd
      go_wp2_with (go_at_call 47; refine hco.mono ?_; clear hco; rintro e w3 ⟨v3, rfl, ho3, hb3⟩; have HR := hide (And.intro ho3 hb3); clear ho3 hb3)
      go_ret
      have hl : (famL l (keyR s)).length = (famG l s k).length := by rw [← HE.out, (ord_perm _).length_eq]
      refine ⟨_, rfl, ?_, bthen HB.out HR.out.2⟩
      rw [hl, ← HE.out]
      exact own_mono HR.out.1 HB.out.size
end Go.Proofs.YtcfbgelhggapjaaGreatDoor
/- Replica: the reference's History. -/
namespace Go.Proofs.YtcfbgelhggapjaaGreatDoor
open Go.RowKit Go.Shelf
set_option linter.unusedSimpArgs false in
set_option maxRecDepth 100000 in
set_option maxHeartbeats 8000000 in
theorem c_rHistory (p : Int) (A : Option Addr) (N c : Nat) (l : List Rc) (k1 k2 : Int) (w : World) (hN : N ≤ 9223372036854775807) (hr : SlR w w.heap.size 7 A N (l.flatMap cR)) :
    Calls Tryz.prog 25 #[rpV p A N c, .int .i64 k1, .int .i64 k2] w (BehPost (if vrB p l then histL l (k1, k2) else none) w) := by
  have HL := hide hr.lenR
  have hb0 := balloc (Below.refl w.heap.size w) (.cells #[.int .i64 p, .slice A N c] 25)
  have gR := Blk.new w 25 [.int .i64 p, .slice A N c]
  obtain ⟨w0, hw0⟩ : ∃ w0, w.alloc (.cells #[.int .i64 p, .slice A N c] 25) = w0 := ⟨_, rfl⟩
  rw [hw0] at hb0
  have gR : Blk w0 w.heap.size 25 [.int .i64 p, .slice A N c] := by rw [← hw0]; exact gR
  have hcv := c_rValid p A N c l w0 (hr.to' hb0) hN
  have HH : Hid (∀ W, Below w0.heap.size w0 W → Blk W w.heap.size 25 [.int .i64 p, .slice A N c] ∧ SlR W W.heap.size 7 A N (l.flatMap cR) ∧ Below w.heap.size w W) := hide (fun W h => ⟨gR.below h gR.lt, hr.to' (bthen hb0 h), bthen hb0 h⟩)
  obtain ⟨r0, r1⟩ := gR.two
  have HW0 := hide hw0
  have hlt := gR.lt
  have HB0 := hide hb0
  clear hw0 gR hb0 hr
  unfold rpV
  unfold rpV at hcv
  cases hvr : vrB p l with
  | false =>
    rw [hvr] at hcv
    clear hvr
    go_enter Tryz.func25, Tryz.ntmps25
    go_wp2_with (go_at_call 17; rw [HW0.out]; refine hcv.mono ?_; clear hcv r0 r1; rintro e w1 ⟨rfl, hb1⟩)
    go_ret2
    exact ⟨(HH.out _ hb1).2.2, .inl ⟨by simp, rfl⟩⟩
  | true =>
    rw [hvr] at hcv
    obtain ⟨-, hl150, hV⟩ := vr_iff.1 hvr
    have HV := hide hV
    have HN : Hid (N ≤ 150) := hide (by have := HL.out; omega)
    clear hvr hV
    have HFd : Hid (∀ W, Below w0.heap.size w0 W → Calls Tryz.prog 38 #[.slice A N c, .int .i64 k1, .int .i64 k2] W fun e w' => e = .returned (.int .i64 (fdI (k1, k2) l)) ∧ W = w') := hide (fun W h => c_rFind A N c l k1 k2 W hN (HH.out W h).2.1)
    rcases fdI_cases (k1, k2) l with ⟨g1, g2⟩ | ⟨i, hi, g0, g1, g2⟩
    · rw [g2] at HFd
      have HG := hide g1
      clear g1 g2
      go_enter Tryz.func25, Tryz.ntmps25
      go_wp2_with (first | (go_at_call 17; rw [HW0.out]; refine hcv.mono ?_; clear hcv r0 r1; rintro e w1 ⟨rfl, hb1⟩; obtain ⟨s0, s1⟩ := (HH.out _ hb1).1.two; have hcf := HFd.out _ hb1; have h1s := (HH.out _ hb1).1.lt; have H1 := hide hb1; clear hb1) |
        (go_at_call 38; refine hcf.mono ?_; clear hcf; rintro e w2 ⟨rfl, rfl⟩))
      go_ret2
      exact ⟨(HH.out _ H1.out).2.2, .inl ⟨by simp [histL, HG.out], rfl⟩⟩
    · rw [g2] at HFd
      have HHL : Hid (histL l (k1, k2) = some (famL l (keyR (rootR l (l[i]'hi))))) := hide (by unfold histL; rw [g1]; rfl)
      obtain ⟨j, hj, hjr⟩ := List.getElem_of_mem (root_mem HV.out (List.getElem_mem hi))
      have HRT : Hid (∀ W, Below w0.heap.size w0 W → Calls Tryz.prog 60 #[.slice A N c, .int .i64 i] W fun e w' => e = .returned (.int .i64 j) ∧ Below W.heap.size W w') := hide (fun W h => (c_rRoot A N c l i W HV.out hN hi (HH.out W h).2.1).mono (by
        rintro e' w' ⟨⟨j', hj', rfl, e2⟩, hb⟩
        obtain rfl : j' = j := (at_eq HV.out hj hj').1 (by rw [e2, hjr])
        exact ⟨rfl, hb⟩))
      have HFM : Hid (∀ W, Below w0.heap.size w0 W → Calls Tryz.prog 48 #[.slice A N c, .int .i64 j] W fun e w' => ∃ v, e = .returned v ∧ w'.ownsRow W.heap.size 49 7 v (famL l (keyR (rootR l (l[i]'hi)))).length ((famL l (keyR (rootR l (l[i]'hi)))).flatMap cR) ∧ Below W.heap.size W w') := hide (fun W h => by
        have := c_rfamily A N c l j W HV.out HN.out hj (HH.out W h).2.1
        rw [hjr] at this
        exact this)
      generalize famL l (keyR (rootR l (l[i]'hi))) = m at *
      have hiz : ¬ ((i : Int) < 0) := by omega
      clear g0 g1 g2 hjr
      go_enter Tryz.func25, Tryz.ntmps25
      go_wp2_with (first | (go_at_call 17; rw [HW0.out]; refine hcv.mono ?_; clear hcv r0 r1; rintro e w1 ⟨rfl, hb1⟩; obtain ⟨s0, s1⟩ := (HH.out _ hb1).1.two; have hcf := HFd.out _ hb1; have h1s := (HH.out _ hb1).1.lt; have H1 := hide hb1; clear hb1) |
        (go_at_call 38; refine hcf.mono ?_; clear hcf; rintro e w2 ⟨rfl, rfl⟩))
      have HX : Hid (∀ W', Below w1.heap.size w1 W' → W'.cell? ⟨w.heap.size, 0, none⟩ = some (.int .i64 p) ∧ W'.cell? ⟨w.heap.size, 1, none⟩ = some (.slice A N c)) := hide (fun W' h => (HH.out W' (bthen H1.out h)).1.two)
      refine wp_region_held_drew (S := fun W' => W'.cell? ⟨w.heap.size, 0, none⟩ = some (.int .i64 p) ∧ W'.cell? ⟨w.heap.size, 1, none⟩ = some (.slice A N c)) (by kernel_rfl) (HX.out _ (bdrew (Below.refl _ _))) (fun hHeld => ?_)
      refine wpAnyH_take (i := 0) (v := ?_) rfl (by kernel_rfl) (by kernel_rfl) (by kernel_rfl) (fun _ _ _ h => h) (Or.inl ⟨by rfl, ?hy1⟩) (by assumption) ?rs1
      case hy1 => (intro w hSw; (try dsimp only at hSw); go_simp; try (with_reducible rfl))
      (try simp only [Act.put, List.setIfInBounds_toArray, List.set_cons_zero, List.set_cons_succ, List.getElem_toArray, List.getElem_cons_zero, List.getElem_cons_succ])
      refine wpAnyH_take (i := 1) (v := ?_) rfl (by kernel_rfl) (by kernel_rfl) (by kernel_rfl) (fun _ _ _ h => h) (Or.inl ⟨by rfl, ?hy2⟩) (by assumption) ?rs2
      case hy2 => (intro w hSw; (try dsimp only at hSw); go_simp; try (with_reducible rfl))
      (try simp only [Act.put, List.setIfInBounds_toArray, List.set_cons_zero, List.set_cons_succ, List.getElem_toArray, List.getElem_cons_zero, List.getElem_cons_succ])
      refine wpAnyH_take (i := 2) (v := ?_) rfl (by kernel_rfl) (by kernel_rfl) (by kernel_rfl) (fun _ _ _ h => h) (Or.inl ⟨by rfl, ?hy3⟩) (by assumption) ?rs3
      case hy3 => (intro w hSw; (try dsimp only at hSw); go_simp; try (with_reducible rfl))
      (try simp only [Act.put, List.setIfInBounds_toArray, List.set_cons_zero, List.set_cons_succ, List.getElem_toArray, List.getElem_cons_zero, List.getElem_cons_succ])
      refine wpAnyH_take (i := 3) (v := ?_) rfl (by kernel_rfl) (by kernel_rfl) (by kernel_rfl) (fun _ _ _ h => h) (Or.inl ⟨by rfl, ?hy4⟩) (by assumption) ?rs4
      case hy4 => (intro w hSw; (try dsimp only at hSw); go_simp; try (with_reducible rfl))
      (try simp only [Act.put, List.setIfInBounds_toArray, List.set_cons_zero, List.set_cons_succ, List.getElem_toArray, List.getElem_cons_zero, List.getElem_cons_succ])
      refine wpAnyH_take (i := 4) (v := ?_) rfl (by kernel_rfl) (by kernel_rfl) (by kernel_rfl) (fun _ _ _ h => h) (Or.inl ⟨by rfl, ?hy5⟩) (by assumption) ?rs5
      case hy5 => (intro w hSw; (try dsimp only at hSw); go_simp; try (with_reducible rfl))
      (try simp only [Act.put, List.setIfInBounds_toArray, List.set_cons_zero, List.set_cons_succ, List.getElem_toArray, List.getElem_cons_zero, List.getElem_cons_succ])
      refine wpAnyH_ready (rs := [5]) (by kernel_rfl) (by simp) ?_
      refine AllReadyH.cons rfl (fun K hK => ?_) ?_
      · go_simp
        refine (HRT.out _ (bthen H1.out (bdrew (Below.refl _ _)))).mono ?_
        rintro e w4 ⟨rfl, hb4⟩
        have h4 := hide (bthen (bdrew (Below.refl w1.heap.size w1)) hb4)
        clear hb4
        refine hK.out _ _ (by exact (HX.out _ h4.out)) (fun hHeld => ?_)
        clear hK K
        (try simp only [Act.put, List.setIfInBounds_toArray, List.set_cons_zero, List.set_cons_succ, List.getElem_toArray, List.getElem_cons_zero, List.getElem_cons_succ])
        refine wpAnyH_ready (rs := [6]) (by kernel_rfl) (by simp) ?_
        refine AllReadyH.cons rfl (fun K hK => ?_) ?_
        · go_simp
          refine (HFM.out _ (bthen H1.out h4.out)).mono ?_
          rintro e w5 ⟨v, rfl, hown, hb5⟩
          have h5 := hide (bthen h4.out hb5)
          obtain ⟨Av, cv, rfl, hv1, hv2, _⟩ := SlR.of_own hown
          have HO := hide (And.intro hown (And.intro hv1 (And.intro hv2 (And.intro (bthen H1.out h4.out).size hb5))))
          clear hown hv1 hv2 hb5
          refine hK.out _ _ (by exact (HX.out _ h5.out)) (fun hHeld => ?_)
          clear hK K
          (try simp only [Act.put, List.setIfInBounds_toArray, List.set_cons_zero, List.set_cons_succ, List.getElem_toArray, List.getElem_cons_zero, List.getElem_cons_succ])
          refine wpAnyH_take (i := 7) (v := ?_) rfl (by kernel_rfl) (by kernel_rfl) (by kernel_rfl) (fun _ _ _ h => h) (Or.inl ⟨by rfl, ?hy6⟩) (by assumption) ?rs6
          case hy6 => (intro w hSw; (try dsimp only at hSw); go_simp; try (with_reducible rfl))
          (try simp only [Act.put, List.setIfInBounds_toArray, List.set_cons_zero, List.set_cons_succ, List.getElem_toArray, List.getElem_cons_zero, List.getElem_cons_succ])
          refine wpAnyH_take (i := 8) (v := ?_) rfl (by kernel_rfl) (by kernel_rfl) (by kernel_rfl) (fun _ _ _ h => h) (Or.inl ⟨by rfl, ?hy7⟩) (by assumption) ?rs7
          case hy7 => (intro w hSw; (try dsimp only at hSw); go_simp; try (with_reducible rfl))
          (try simp only [Act.put, List.setIfInBounds_toArray, List.set_cons_zero, List.set_cons_succ, List.getElem_toArray, List.getElem_cons_zero, List.getElem_cons_succ])
          refine wpAnyH_done (by kernel_rfl) ?_ _
          go_wp2_with fail
          go_ret2
          obtain ⟨h1, h2, h3, h6, h7⟩ := HO.out
          refine ⟨(HH.out _ (bthen H1.out h5.out)).2.2, .inr ⟨m, Av, cv, by simpa using HHL.out, rfl, h2, by unfold maxLen at h3; omega, (own_sln h1).mono ?_⟩⟩
          have h8 := (HH.out _ (bthen H1.out h4.out)).2.2.size
          exact h8
        · exact AllReadyH.nil
      · exact AllReadyH.nil
end Go.Proofs.YtcfbgelhggapjaaGreatDoor
/- Replica: the reference's Fold. -/
namespace Go.Proofs.YtcfbgelhggapjaaGreatDoor
open Go.RowKit Go.Shelf
theorem famL_le (l : List Rc) (k : I2) : (famL l k).length ≤ l.length := by
  unfold famL
  refine Nat.le_trans (List.length_filter_le _ _) ?_
  rw [(ord_perm l).length_eq]
  exact Nat.le_refl _
/-- the roots among the first records -/
def rtsL (l : List Rc) (k : Nat) : List Rc := (l.take k).filter rootB
theorem rtsL_succ (l : List Rc) (k : Nat) (h : k < l.length) : rtsL l (k + 1) = if rootB (l[k]'h) = true then rtsL l k ++ [l[k]'h] else rtsL l k := by
  unfold rtsL
  rw [List.take_succ_eq_append_getElem h, List.filter_append]
  by_cases e : rootB (l[k]'h) = true
  · rw [if_pos e]; simp [e]
  · rw [if_neg e]; simp [e]
theorem rtsL_len (l : List Rc) (k : Nat) : (rtsL l k).length ≤ k := by
  unfold rtsL
  refine Nat.le_trans (List.length_filter_le _ _) ?_
  rw [List.length_take]
  omega
/-- what holds of the first roots -/
def hldL (l rs : List Rc) (k : Nat) : List Rc := (rs.take k).filterMap (holdR l)
theorem hldL_succ (l rs : List Rc) (k : Nat) (h : k < rs.length) : hldL l rs (k + 1) = match holdR l (rs[k]'h) with | some x => hldL l rs k ++ [x] | none => hldL l rs k := by
  unfold hldL
  rw [List.take_succ_eq_append_getElem h, List.filterMap_append]
  cases hl : holdR l (rs[k]'h) with
  | none => simp [hl]
  | some x => simp [hl]
theorem hldL_len (l rs : List Rc) (k : Nat) : (hldL l rs k).length ≤ k := by
  unfold hldL
  refine Nat.le_trans (List.length_filterMap_le _ _) ?_
  rw [List.length_take]
  omega
theorem of_root {l : List Rc} (h : VL l) {r : Rc} (hr : r ∈ l) : (r.of < 0 ↔ rootB r = true) := by
  rcases fm_of (h.fm r hr) with ⟨h1, h2⟩ | ⟨h1, h2⟩
  · exact ⟨fun _ => h2, fun _ => by omega⟩
  · exact ⟨fun h => absurd h (by omega), fun h => by rw [h2] at h; cases h⟩
set_option linter.unusedSimpArgs false in
set_option maxRecDepth 100000 in
set_option maxHeartbeats 8000000 in
theorem c_rFold (p : Int) (A : Option Addr) (N c : Nat) (l : List Rc) (w : World) (hN : N ≤ 9223372036854775807) (hr : SlR w w.heap.size 7 A N (l.flatMap cR)) :
    Calls Tryz.prog 14 #[rpV p A N c] w (BehPost (if vrB p l then some (foldL l) else none) w) := by
  have HL := hide hr.lenR
  have hb0 := balloc (Below.refl w.heap.size w) (.cells #[.int .i64 p, .slice A N c] 25)
  have gR := Blk.new w 25 [.int .i64 p, .slice A N c]
  obtain ⟨w0, hw0⟩ : ∃ w0, w.alloc (.cells #[.int .i64 p, .slice A N c] 25) = w0 := ⟨_, rfl⟩
  rw [hw0] at hb0
  have gR : Blk w0 w.heap.size 25 [.int .i64 p, .slice A N c] := by rw [← hw0]; exact gR
  have hcv := c_rValid p A N c l w0 (hr.to' hb0) hN
  have HH : Hid (∀ W, Below w0.heap.size w0 W → Blk W w.heap.size 25 [.int .i64 p, .slice A N c] ∧ SlR W W.heap.size 7 A N (l.flatMap cR) ∧ Below w.heap.size w W) := hide (fun W h => ⟨gR.below h gR.lt, hr.to' (bthen hb0 h), bthen hb0 h⟩)
  obtain ⟨r0, r1⟩ := gR.two
  have HW0 := hide hw0
  have hlt := gR.lt
  have HB0 := hide hb0
  clear hw0 gR hb0 hr
  unfold rpV
  unfold rpV at hcv
  cases hvr : vrB p l with
  | false =>
    rw [hvr] at hcv
    clear hvr
    go_enter Tryz.func14, Tryz.ntmps14
    go_wp2_with (go_at_call 17; rw [HW0.out]; refine hcv.mono ?_; clear hcv r0 r1; rintro e w1 ⟨rfl, hb1⟩)
    go_ret2
    exact ⟨(HH.out _ hb1).2.2, .inl ⟨by simp, rfl⟩⟩
  | true =>
    rw [hvr] at hcv
    obtain ⟨-, hl150, hV⟩ := vr_iff.1 hvr
    have HV := hide hV
    have hN150 : N ≤ 150 := by have := HL.out; omega
    obtain ⟨j0, hj0, hz0, hz1, hz2⟩ := info_parts Tryz.infoRec
    clear hvr hV
    go_enter Tryz.func14, Tryz.ntmps14
    go_wp2_with (go_at_call 17; rw [HW0.out]; refine hcv.mono ?_; clear hcv r0 r1; rintro e w1 ⟨rfl, hb1⟩; have H1 := hide hb1; clear hb1)
    have HW1 : Hid (∀ W, Below w1.heap.size w1 W → Blk W w.heap.size 25 [.int .i64 p, .slice A N c] ∧ SlR W W.heap.size 7 A N (l.flatMap cR) ∧ Below w.heap.size w W) := hide (fun W h => HH.out W (bthen H1.out h))
    clear hlt
    go_loopw [4, 5] (fun v i wr => ∃ k : Nat, k ≤ N ∧ i = .int .i64 k ∧ wr.ownsRow w1.heap.size 49 7 v (rtsL l k).length ((rtsL l k).flatMap cR) ∧ Below w1.heap.size w1 wr) (fun _ i _ => N - (intOf i).toNat)
    case atStart => exact ⟨0, Nat.zero_le _, rfl, (by exact World.ownsRow_nil _ _ _ _), Below.refl _ _⟩
    case round =>
      obtain ⟨k, hk, rfl, hown, hb⟩ := hrel
      obtain ⟨gR, hsl, hbw⟩ := HW1.out wr hb
      obtain ⟨r0, r1⟩ := gR.two
      have hlr := gR.lt
      obtain ⟨Av, cv, rfl, hv1, hv2, hv3⟩ := SlR.of_own hown
      have hml := rtsL_len l k
      by_cases hlt : k < N
      · have hkl : k < l.length := by have := HL.out; omega
        obtain ⟨b, off, rfl, hbb⟩ := hsl.some_of (by omega)
        have hji : (k : Int) < (N : Int) := by omega
        obtain ⟨-, y0, y1, y2, y3, y4, y5, y6⟩ := hsl.cellsR (Below.refl _ _) hkl
        have HNS := hide (rtsL_succ l k hkl)
        have hor := of_root HV.out (List.getElem_mem hkl)
        have HO := hide (And.intro hown hb)
        have hww := hb.size
        generalize l[k]'hkl = r at *
        obtain ⟨rp, rn, rt, ro, rw', rk, rx⟩ := r
        dsimp only at y0 y1 y2 y3 y4 y5 y6 hor
        by_cases hroot : rootB ⟨rp, rn, rt, ro, rw', rk, rx⟩ = true
        · have HN1 := hide (HNS.out.trans (if_pos hroot))
          have hro := hor.2 hroot
          have gA := (Blk.new wr 49 (cR ⟨rp, rn, rt, ro, rw', rk, rx⟩)).slr (k := 7) (n := 1) rfl
          have hown7 := hown.alloc (.cells #[.int .i64 rp, .int .i64 rn, .int .i64 rt, .int .i64 ro, .int .i64 rw', .int .i64 rk, .string rx] 49)
          clear hown hb hv3 HNS hor hroot gR hsl hbw
          generalize rtsL l k = mo at *
          go_wp2_with (at_builtin; refine wpList_append_sl (size := 7) rfl _ _ 23 rfl w1.heap.size 49 j0 zV 64 Tryz.underlying23 hj0 hz0 hz1 hz2 rfl (by decide) (.slice Av mo.length cv) mo.length (mo.flatMap cR) rfl hown7 1 1 (cR ⟨rp, rn, rt, ro, rw', rk, rx⟩) rfl gA (Below.refl _ _) (fun u hu => oneR [⟨rp, rn, rt, ro, rw', rk, rx⟩] u (by simpa using hu)) (by unfold maxLen; omega) (by omega) (by simp; omega) ?_; intro v8 w8 hown8 hgrow8 hor8; have HN8 := hide (And.intro hown8 hgrow8); clear hown8 hgrow8 hor8 hown7 gA)
          obtain ⟨hown8, hgrow8⟩ := HN8.out
          have hw1 : wrap64 ((k : Int) + 1) = ((k + 1 : Nat) : Int) := (Go.IntWalk.wrap64_in _ (by omega)).trans rfl
          try rw [hw1]
          clear hw1
          refine ⟨⟨k + 1, hlt, rfl, ?_, ?_⟩, ?_⟩
          · rw [HN1.out, List.length_append, List.flatMap_append]
            simpa using hown8
          · exact bgrown (balloc HO.out.2 _) hgrow8 (own_ge HO.out.1)
          · show N - ((k : Int) + 1).toNat < N - ((k : Nat) : Int).toNat
            omega
        · have HN1 := hide (HNS.out.trans (if_neg hroot))
          have hro : ¬ (ro < 0) := fun h => hroot (hor.1 h)
          clear hown hb hv3 HNS hor hroot gR hsl hbw
          go_wp2_with fail
          have hw1 : wrap64 ((k : Int) + 1) = ((k + 1 : Nat) : Int) := (Go.IntWalk.wrap64_in _ (by omega)).trans rfl
          try rw [hw1]
          clear hw1
          refine ⟨⟨k + 1, hlt, rfl, by rw [HN1.out]; exact HO.out.1, HO.out.2⟩, ?_⟩
          show N - ((k : Int) + 1).toNat < N - ((k : Nat) : Int).toNat
          omega
      · obtain rfl : k = N := by omega
        have hkt : rtsL l k = l.filter rootB := by unfold rtsL; rw [← HL.out, List.take_length]
        have hnd := nd_filter rootB HV.out.nd
        have hco := c_rordered Av (rtsL l k).length cv (rtsL l k) wr (by rw [hkt]; exact hnd) (by omega) hv3
        obtain ⟨rs, hrs⟩ : ∃ rs, ordL (rtsL l k) = rs := ⟨_, rfl⟩
        have HRS := hide (show rs = (ordL l).filter rootB by rw [← hrs, hkt, ord_filter _ HV.out.nd])
        have HRM : Hid (∀ r ∈ rs, r ∈ l ∧ rootB r = true) := hide (fun r hr => by
          rw [HRS.out, List.mem_filter, mem_ord] at hr
          exact hr)
        rw [hrs] at hco
        have HRL := hide (show rs.length = (rtsL l k).length by rw [← hrs, (ord_perm _).length_eq])
        generalize (rtsL l k).length = M at *
        have HB := hide hb
        clear hown hb hv3 hnd hkt hrs gR hsl hbw
        go_wp2_with (go_at_call 47; refine hco.mono ?_; clear hco r0 r1; rintro e w3 ⟨v3, rfl, ho3, hb3⟩; obtain ⟨Ar, cr, rfl, hr1, hr2, _⟩ := SlR.of_own ho3; have HR := hide (And.intro ho3 (bthen HB.out hb3)); clear ho3 hb3)
        have HW3 : Hid (∀ W, Below w3.heap.size w3 W → Blk W w.heap.size 25 [.int .i64 p, .slice A k c] ∧ SlR W W.heap.size 7 A k (l.flatMap cR) ∧ Below w.heap.size w W ∧ SlR W W.heap.size 7 Ar M (rs.flatMap cR)) := hide (fun W h => by
          obtain ⟨q1, q2, q3⟩ := HW1.out W (bthen HR.out.2 h)
          exact ⟨q1, q2, q3, (own_row (own_to HR.out.1 h)).2.2⟩)
        clear hlr
        go_loopw [6, 7] (fun v i wx => ∃ q : Nat, q ≤ M ∧ i = .int .i64 q ∧ wx.ownsRow w3.heap.size 49 7 v (hldL l rs q).length ((hldL l rs q).flatMap cR) ∧ Below w3.heap.size w3 wx) (fun _ i _ => M - (intOf i).toNat)
        case atStart => exact ⟨0, Nat.zero_le _, rfl, (by exact World.ownsRow_nil _ _ _ _), Below.refl _ _⟩
        case round =>
          obtain ⟨q, hq, rfl, hown, hb⟩ := hrel
          obtain ⟨gR, hsl, hbw, hsr⟩ := HW3.out wr hb
          obtain ⟨r0, r1⟩ := gR.two
          have hlr := gR.lt
          obtain ⟨Av, cv, rfl, hu1, hu2, hu3⟩ := SlR.of_own hown
          have hml := hldL_len l rs q
          by_cases hlt : q < M
          · have hql : q < rs.length := by have := HRL.out; omega
            obtain ⟨b, off, rfl, hbb⟩ := hsr.some_of (by omega)
            have hji : (q : Int) < (M : Int) := by omega
            have HNS := hide (hldL_succ l rs q hql)
            obtain ⟨hrl, hrr⟩ := HRM.out _ (List.getElem_mem hql)
            have HCx : Hid (∀ W, Below wr.heap.size wr W → W.cell? ⟨w.heap.size, 0, none⟩ = some (.int .i64 p) ∧ W.cell? ⟨w.heap.size, 1, none⟩ = some (.slice A k c) ∧ W.cell? ⟨b, off + q * 7, none⟩ = some (.int .i64 (rs[q]'hql).pen) ∧ W.cell? ⟨b, off + q * 7 + 1, none⟩ = some (.int .i64 (rs[q]'hql).num) ∧ Below wr.heap.size wr W) := hide (fun W h => by
              obtain ⟨g1, g2⟩ := (gR.below h gR.lt).two
              have g3 := (hsr.cellsR h hql).2
              exact ⟨g1, g2, g3.1, g3.2.1, h⟩)
            rcases fdI_cases (keyR (rs[q]'hql)) l with ⟨g1, g2⟩ | ⟨i, hi, g0, g1, g2⟩
            · rw [fd_mem HV.out.nd hrl] at g1; cases g1
            have hli : l[i] = rs[q]'hql := by rw [fd_mem HV.out.nd hrl] at g1; exact (Option.some.inj g1).symm
            have HFd : Hid (∀ W, Below wr.heap.size wr W → Calls Tryz.prog 38 #[.slice A k c, .int .i64 (rs[q]'hql).pen, .int .i64 (rs[q]'hql).num] W fun e w' => e = .returned (.int .i64 i) ∧ W = w') := hide (fun W h => by
              have := c_rFind A k c l (rs[q]'hql).pen (rs[q]'hql).num W (by omega) (hsl.to' h)
              rw [show (((rs[q]'hql).pen, (rs[q]'hql).num) : I2) = keyR (rs[q]'hql) from rfl, g2] at this
              exact this)
            have HFM : Hid (∀ W, Below wr.heap.size wr W → Calls Tryz.prog 48 #[.slice A k c, .int .i64 i] W fun e w' => ∃ v, e = .returned v ∧ w'.ownsRow W.heap.size 49 7 v (famL l (keyR (rs[q]'hql))).length ((famL l (keyR (rs[q]'hql))).flatMap cR) ∧ Below W.heap.size W w') := hide (fun W h => by
              have := c_rfamily A k c l i W HV.out hN150 hi (hsl.to' h)
              rw [hli] at this
              exact this)
            obtain ⟨t0, ht0⟩ := fam_head HV.out hrl hrr
            have hfl := famL_le l (keyR (rs[q]'hql))
            have hfp : 0 < (famL l (keyR (rs[q]'hql))).length := by rw [ht0]; simp
            have hh : holdR l (rs[q]'hql) = lastF (famL l (keyR (rs[q]'hql))) := rfl
            rw [hh] at HNS
            have HO := hide (And.intro hown hb)
            have hww := hb.size
            have hfN : (famL l (keyR (rs[q]'hql))).length ≤ 150 := by have := HL.out; omega
            generalize (rs[q]'hql).pen = rp1 at *
            generalize (rs[q]'hql).num = rn1 at *
            generalize famL l (keyR (rs[q]'hql)) = m at *
            clear hown hb hu3 gR hsl hbw hsr g0 g1 g2 hli ht0 hrl hrr hh hfl
            go_upto_region 14 with (fail)
            refine wp_region_held_drew (S := fun W => W.cell? ⟨w.heap.size, 0, none⟩ = some (.int .i64 p) ∧ W.cell? ⟨w.heap.size, 1, none⟩ = some (.slice A k c) ∧ W.cell? ⟨b, off + q * 7, none⟩ = some (.int .i64 rp1) ∧ W.cell? ⟨b, off + q * 7 + 1, none⟩ = some (.int .i64 rn1) ∧ Below wr.heap.size wr W) (by kernel_rfl) (HCx.out _ (bdrew (Below.refl _ _))) (fun hHeld => ?_)
            refine wpAnyH_take (i := 0) (v := ?_) rfl (by kernel_rfl) (by kernel_rfl) (by kernel_rfl) (fun _ _ _ h => h) (Or.inl ⟨by rfl, ?hy1⟩) (by assumption) ?rs1
            case hy1 => (intro w hSw; (try dsimp only at hSw); go_simp; try (with_reducible rfl))
            (try simp only [Act.put, List.setIfInBounds_toArray, List.set_cons_zero, List.set_cons_succ, List.getElem_toArray, List.getElem_cons_zero, List.getElem_cons_succ])
            refine wpAnyH_take (i := 1) (v := ?_) rfl (by kernel_rfl) (by kernel_rfl) (by kernel_rfl) (fun _ _ _ h => h) (Or.inl ⟨by rfl, ?hy2⟩) (by assumption) ?rs2
            case hy2 => (intro w hSw; (try dsimp only at hSw); go_simp; try (with_reducible rfl))
            (try simp only [Act.put, List.setIfInBounds_toArray, List.set_cons_zero, List.set_cons_succ, List.getElem_toArray, List.getElem_cons_zero, List.getElem_cons_succ])
            refine wpAnyH_take (i := 2) (v := ?_) rfl (by kernel_rfl) (by kernel_rfl) (by kernel_rfl) (fun _ _ _ h => h) (Or.inl ⟨by rfl, ?hy3⟩) (by assumption) ?rs3
            case hy3 => (intro w hSw; (try dsimp only at hSw); go_simp; try (with_reducible rfl))
            (try simp only [Act.put, List.setIfInBounds_toArray, List.set_cons_zero, List.set_cons_succ, List.getElem_toArray, List.getElem_cons_zero, List.getElem_cons_succ])
            refine wpAnyH_take (i := 3) (v := ?_) rfl (by kernel_rfl) (by kernel_rfl) (by kernel_rfl) (fun _ _ _ h => h) (Or.inl ⟨by rfl, ?hy4⟩) (by assumption) ?rs4
            case hy4 => (intro w hSw; (try dsimp only at hSw); go_simp; try (with_reducible rfl))
            (try simp only [Act.put, List.setIfInBounds_toArray, List.set_cons_zero, List.set_cons_succ, List.getElem_toArray, List.getElem_cons_zero, List.getElem_cons_succ])
            refine wpAnyH_take (i := 4) (v := ?_) rfl (by kernel_rfl) (by kernel_rfl) (by kernel_rfl) (fun _ _ _ h => h) (Or.inl ⟨by rfl, ?hy5⟩) (by assumption) ?rs5
            case hy5 => (intro w hSw; (try dsimp only at hSw); go_simp; try (with_reducible rfl))
            (try simp only [Act.put, List.setIfInBounds_toArray, List.set_cons_zero, List.set_cons_succ, List.getElem_toArray, List.getElem_cons_zero, List.getElem_cons_succ])
            refine wpAnyH_take (i := 5) (v := ?_) rfl (by kernel_rfl) (by kernel_rfl) (by kernel_rfl) (fun _ _ _ h => h) (Or.inl ⟨by rfl, ?hy6⟩) (by assumption) ?rs6
            case hy6 => (intro w hSw; (try dsimp only at hSw); go_simp; try (with_reducible rfl))
            (try simp only [Act.put, List.setIfInBounds_toArray, List.set_cons_zero, List.set_cons_succ, List.getElem_toArray, List.getElem_cons_zero, List.getElem_cons_succ])
            refine wpAnyH_take (i := 6) (v := ?_) rfl (by kernel_rfl) (by kernel_rfl) (by kernel_rfl) (fun _ _ _ h => h) (Or.inl ⟨by rfl, ?hy7⟩) (by assumption) ?rs7
            case hy7 => (intro w hSw; (try dsimp only at hSw); go_simp; try (with_reducible rfl))
            (try simp only [Act.put, List.setIfInBounds_toArray, List.set_cons_zero, List.set_cons_succ, List.getElem_toArray, List.getElem_cons_zero, List.getElem_cons_succ])
            refine wpAnyH_take (i := 7) (v := ?_) rfl (by kernel_rfl) (by kernel_rfl) (by kernel_rfl) (fun _ _ _ h => h) (Or.inl ⟨by rfl, ?hy8⟩) (by assumption) ?rs8
            case hy8 => (intro w hSw; (try dsimp only at hSw); go_simp; try (with_reducible rfl))
            (try simp only [Act.put, List.setIfInBounds_toArray, List.set_cons_zero, List.set_cons_succ, List.getElem_toArray, List.getElem_cons_zero, List.getElem_cons_succ])
            refine wpAnyH_take (i := 8) (v := ?_) rfl (by kernel_rfl) (by kernel_rfl) (by kernel_rfl) (fun _ _ _ h => h) (Or.inl ⟨by rfl, ?hy9⟩) (by assumption) ?rs9
            case hy9 => (intro w hSw; (try dsimp only at hSw); go_simp; try (with_reducible rfl))
            (try simp only [Act.put, List.setIfInBounds_toArray, List.set_cons_zero, List.set_cons_succ, List.getElem_toArray, List.getElem_cons_zero, List.getElem_cons_succ])
            refine wpAnyH_take (i := 9) (v := ?_) rfl (by kernel_rfl) (by kernel_rfl) (by kernel_rfl) (fun _ _ _ h => h) (Or.inl ⟨by rfl, ?hy10⟩) (by assumption) ?rs10
            case hy10 => (intro w hSw; (try dsimp only at hSw); go_simp; try (with_reducible rfl))
            (try simp only [Act.put, List.setIfInBounds_toArray, List.set_cons_zero, List.set_cons_succ, List.getElem_toArray, List.getElem_cons_zero, List.getElem_cons_succ])
            refine wpAnyH_take (i := 10) (v := ?_) rfl (by kernel_rfl) (by kernel_rfl) (by kernel_rfl) (fun _ _ _ h => h) (Or.inl ⟨by rfl, ?hy11⟩) (by assumption) ?rs11
            case hy11 => (intro w hSw; (try dsimp only at hSw); go_simp; try (with_reducible rfl))
            (try simp only [Act.put, List.setIfInBounds_toArray, List.set_cons_zero, List.set_cons_succ, List.getElem_toArray, List.getElem_cons_zero, List.getElem_cons_succ])
            refine wpAnyH_take (i := 11) (v := ?_) rfl (by kernel_rfl) (by kernel_rfl) (by kernel_rfl) (fun _ _ _ h => h) (Or.inl ⟨by rfl, ?hy12⟩) (by assumption) ?rs12
            case hy12 => (intro w hSw; (try dsimp only at hSw); go_simp; try (with_reducible rfl))
            (try simp only [Act.put, List.setIfInBounds_toArray, List.set_cons_zero, List.set_cons_succ, List.getElem_toArray, List.getElem_cons_zero, List.getElem_cons_succ])
            refine wpAnyH_take (i := 12) (v := ?_) rfl (by kernel_rfl) (by kernel_rfl) (by kernel_rfl) (fun _ _ _ h => h) (Or.inl ⟨by rfl, ?hy13⟩) (by assumption) ?rs13
            case hy13 => (intro w hSw; (try dsimp only at hSw); go_simp; try (with_reducible rfl))
            (try simp only [Act.put, List.setIfInBounds_toArray, List.set_cons_zero, List.set_cons_succ, List.getElem_toArray, List.getElem_cons_zero, List.getElem_cons_succ])
            refine wpAnyH_take (i := 13) (v := ?_) rfl (by kernel_rfl) (by kernel_rfl) (by kernel_rfl) (fun _ _ _ h => h) (Or.inl ⟨by rfl, ?hy14⟩) (by assumption) ?rs14
            case hy14 => (intro w hSw; (try dsimp only at hSw); go_simp; try (with_reducible rfl))
            (try simp only [Act.put, List.setIfInBounds_toArray, List.set_cons_zero, List.set_cons_succ, List.getElem_toArray, List.getElem_cons_zero, List.getElem_cons_succ])
            refine wpAnyH_call (i := 14) rfl (by kernel_rfl) (by kernel_rfl) (by kernel_rfl) (fun _ _ _ h => h) (by rfl) ?he15 (fun w hSw => (HFd.out w hSw.2.2.2.2)) (by assumption) ?rs15
            case he15 => (intro w hSw; (try dsimp only at hSw); go_simp)
            (try simp only [Act.put, List.setIfInBounds_toArray, List.set_cons_zero, List.set_cons_succ, List.getElem_toArray, List.getElem_cons_zero, List.getElem_cons_succ])
            refine wpAnyH_ready (rs := [15]) (by kernel_rfl) (by simp) ?_
            refine AllReadyH.cons rfl (fun K hK => ?_) ?_
            · go_simp
              refine (HFM.out _ (bdrew (Below.refl _ _))).mono ?_
              rintro e w5 ⟨v, rfl, hown, hb5⟩
              have h5 := hide (bthen (bdrew (Below.refl wr.heap.size wr)) hb5)
              obtain ⟨Am, cm, rfl, hm1, hm2, hm3⟩ := SlR.of_own hown
              clear hown hb5
              refine hK.out _ _ (by exact (HCx.out _ h5.out)) (fun hHeld => ?_)
              clear hK K
              (try simp only [Act.put, List.setIfInBounds_toArray, List.set_cons_zero, List.set_cons_succ, List.getElem_toArray, List.getElem_cons_zero, List.getElem_cons_succ])
              refine wpAnyH_take (i := 16) (v := ?_) rfl (by kernel_rfl) (by kernel_rfl) (by kernel_rfl) (fun _ _ _ h => h) (Or.inl ⟨by rfl, ?hy16⟩) (by assumption) ?rs16
              case hy16 => (intro w hSw; (try dsimp only at hSw); go_simp; try (with_reducible rfl))
              (try simp only [Act.put, List.setIfInBounds_toArray, List.set_cons_zero, List.set_cons_succ, List.getElem_toArray, List.getElem_cons_zero, List.getElem_cons_succ])
              refine wpAnyH_done (by kernel_rfl) ?_ _
              obtain ⟨t, ht⟩ : ∃ t, m.length = t + 1 := ⟨m.length - 1, by omega⟩
              have htl : t < m.length := by omega
              have ht150 : t ≤ 150 := by omega
              obtain ⟨ba, offa, rfl, hba⟩ := hm3.some_of (by omega)
              obtain ⟨-, y0, y1, y2, y3, y4, y5, y6⟩ := hm3.cellsR (Below.refl _ _) htl
              have hla : m.getLast? = some m[t] := by rw [List.getLast?_eq_getElem?, ht, Nat.add_sub_cancel, List.getElem?_eq_getElem htl]
              have HLA := hide hla
              have HO5 := hide (own_to HO.out.1 h5.out)
              have HB5 := hide (bthen HO.out.2 h5.out)
              have hww5 := HB5.out.size
              generalize m[t] = r at *
              rw [ht]
              clear hm3 hm1 hm2 htl hla ht hfp
              obtain ⟨rp, rn, rt, ro, rw', rk, rx⟩ := r
              dsimp only at y0 y1 y2 y3 y4 y5 y6
              have hE := isE rx
              by_cases hz : rx.size = 0
              · rw [decide_eq_true hz] at hE
                have HN1 : Hid (hldL l rs (q + 1) = hldL l rs q) := hide (by rw [HNS.out, show lastF m = none from by unfold lastF; rw [HLA.out]; simp [hz]])
                clear hz HNS
                go_wp2_with fail
                have hw1 : wrap64 ((q : Int) + 1) = ((q + 1 : Nat) : Int) := (Go.IntWalk.wrap64_in _ (by omega)).trans rfl
                try rw [hw1]
                clear hw1
                refine ⟨⟨q + 1, hlt, rfl, by rw [HN1.out]; exact HO5.out, HB5.out⟩, ?_⟩
                show M - ((q : Int) + 1).toNat < M - ((q : Nat) : Int).toNat
                omega
              · rw [decide_eq_false hz] at hE
                have HN1 : Hid (hldL l rs (q + 1) = hldL l rs q ++ [⟨rp, rn, rt, ro, rw', rk, rx⟩]) := hide (by rw [HNS.out, show lastF m = some ⟨rp, rn, rt, ro, rw', rk, rx⟩ from by unfold lastF; rw [HLA.out]; simp [hz]])
                have gA := (Blk.new w5 49 (cR ⟨rp, rn, rt, ro, rw', rk, rx⟩)).slr (k := 7) (n := 1) rfl
                have hown7 := HO5.out.alloc (.cells #[.int .i64 rp, .int .i64 rn, .int .i64 rt, .int .i64 ro, .int .i64 rw', .int .i64 rk, .string rx] 49)
                clear hz HNS
                generalize hldL l rs q = mo at *
                go_wp2_with (at_builtin; refine wpList_append_sl (size := 7) rfl _ _ 23 rfl w3.heap.size 49 j0 zV 64 Tryz.underlying23 hj0 hz0 hz1 hz2 rfl (by decide) (.slice Av mo.length cv) mo.length (mo.flatMap cR) rfl hown7 1 1 (cR ⟨rp, rn, rt, ro, rw', rk, rx⟩) rfl gA (Below.refl _ _) (fun u hu => oneR [⟨rp, rn, rt, ro, rw', rk, rx⟩] u (by simpa using hu)) (by unfold maxLen; omega) (by omega) (by simp; omega) ?_; intro v8 w8 hown8 hgrow8 hor8; have HN8 := hide (And.intro hown8 hgrow8); clear hown8 hgrow8 hor8 hown7 gA)
                obtain ⟨hown8, hgrow8⟩ := HN8.out
                have hw1 : wrap64 ((q : Int) + 1) = ((q + 1 : Nat) : Int) := (Go.IntWalk.wrap64_in _ (by omega)).trans rfl
                try rw [hw1]
                clear hw1
                refine ⟨⟨q + 1, hlt, rfl, ?_, ?_⟩, ?_⟩
                · rw [HN1.out, List.length_append, List.flatMap_append]
                  simpa using hown8
                · exact bgrown (balloc HB5.out _) hgrow8 (own_ge HO5.out)
                · show M - ((q : Int) + 1).toNat < M - ((q : Nat) : Int).toNat
                  omega
            · exact AllReadyH.nil
          · obtain rfl : q = M := by omega
            have hkt : hldL l rs q = foldL l := by
              unfold hldL foldL
              rw [← HRL.out, List.take_length, HRS.out]
            have HKT := hide hkt
            have HO := hide (And.intro hown (And.intro hu1 (And.intro hu2 (And.intro (bthen HR.out.2 hb) hbw))))
            clear hown hb hu1 hu2 hu3 gR hsl hbw hsr hkt
            generalize hldL l rs q = mo at *
            go_wp2
            go_ret2
            obtain ⟨h1, h2, h3, h4, h5⟩ := HO.out
            refine ⟨h5, .inr ⟨mo, Av, cv, by simpa using HKT.out.symm, rfl, h2, by unfold maxLen at h3; omega, (own_sln h1).mono ?_⟩⟩
            exact (HW1.out _ HR.out.2).2.2.size
end Go.Proofs.YtcfbgelhggapjaaGreatDoor
