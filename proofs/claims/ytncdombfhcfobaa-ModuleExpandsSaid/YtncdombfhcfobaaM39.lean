/- ModuleMerges: what the law's function does. DRAFT -/
import Derived.Test.YtncdombfhcfobaaM35b
import Derived.Test.YtncdombfhcfobaaM38
namespace Go.Proofs.Ytncdombfhcfobaa
open Go.RowKit
theorem itemV_eq (o : Option It) : itemV o = .tuple #[itV (o.getD zIt), .bool o.isSome] := by cases o <;> rfl
theorem c_rItemX (A : Option Addr) (n c : Nat) (l : List It) (id : Int) (w : World) (hn : n ≤ 9223372036854775807) (hr : SlR w w.heap.size 6 A n (l.flatMap cI)) :
    Calls Try.prog 13 #[.slice A n c, .int .i64 id] w fun e w' => e = .returned (.tuple #[itV (atI' l id), .bool (getI l id).isSome]) ∧ Below w.heap.size w w' := by
  have h := c_rItem A n c l id w hn hr
  rw [itemV_eq] at h
  exact h
theorem flag_eq {l k : List It} (h : itsOk l = true) (h' : itsOk k = true) (n : Int) : ((getI l n).isSome != (getI k n).isSome || (getI l n).isSome && !decide (atI' l n = atI' k n)) = !decide (atI' l n = atI' k n) := by
  by_cases e : atI' l n = atI' k n
  · rw [(get_inj h h' n).2 e]; simp [e]
  · have h1 := get_at h n
    have h2 := get_at h' n
    cases hl : getI l n with
    | some x => simp [e]
    | none =>
      cases hk : getI k n with
      | some y => simp [e]
      | none => exact absurd ((get_inj h h' n).1 (hl.trans hk.symm)) e
theorem mgC_flags (X Y Z : It) : mgC X Y Z = (!decide (X = Y) && !decide (X = Z) && !decide (Y = Z)) := by
  unfold mgC
  rw [show decide (Z = X) = decide (X = Z) from decide_eq_decide.2 eq_comm, show decide (Y = X) = decide (X = Y) from decide_eq_decide.2 eq_comm, Bool.and_comm (!decide (X = Z))]
theorem merge_ok {z o t : List It} (hz : itsOk z = true) (ho : itsOk o = true) (ht : itsOk t = true) : mergeB ⟨4, z⟩ ⟨4, o⟩ ⟨4, t⟩ = true := by
  unfold mergeB
  simp only [hz, ho, ht]
  rfl
theorem c_merge4 (rz ro rt : MR) (z o t T : List It) (w : World) (hez : rz.id = 4) (heo : ro.id = 4) (het : rt.id = 4) (hnz : rz.n ≤ 9223372036854775807) (hno : ro.n ≤ 9223372036854775807) (hnt : rt.n ≤ 9223372036854775807)
    (hsz : SlR w w.heap.size 6 rz.a rz.n (z.flatMap cI)) (hso : SlR w w.heap.size 6 ro.a ro.n (o.flatMap cI)) (hst : SlR w w.heap.size 6 rt.a rt.n (t.flatMap cI)) (hz : itsOk z = true) (ho : itsOk o = true) (ht : itsOk t = true) (hT : itsOk T = true)
    (hm : ∀ s, SortOf (mgM (byL z) (byL o) (byL t) 100) s → s = T ∧ mgG (byL z) (byL o) (byL t) 100 = []) :
    Calls Try.prog 11 #[mrV rz, mrV ro, mrV rt] w fun e w' => Below w.heap.size w w' ∧ ∃ A c Ag cg, e = .returned (.tuple #[.agg #[.int .i64 4, .slice A T.length c], .slice Ag 0 cg, .int .i64 0]) ∧ T.length ≤ c ∧ c ≤ 9223372036854775807 ∧ SlR w' w'.heap.size 6 A T.length (T.flatMap cI) := by
  refine (c_Merge rz ro rt ⟨4, z⟩ ⟨4, o⟩ ⟨4, t⟩ w hez heo het hnz hno hnt hsz hso hst).mono ?_
  rintro e w' ⟨hb, ⟨hv, -⟩ | ⟨-, s, hs, ⟨hv, -⟩ | ⟨-, A, n, c, v, rfl, q1, q2, q3, q4⟩⟩⟩
  · rw [merge_ok hz ho ht] at hv; cases hv
  · obtain ⟨rfl, -⟩ := hm s hs
    rw [hT] at hv
    cases hv
  · obtain ⟨rfl, hg⟩ := hm s hs
    rw [hg] at q4
    obtain ⟨Ag, cg, rfl, -, -, -⟩ := SlR.of_own q4
    obtain rfl := q3.lenI
    exact ⟨hb, A, c, Ag, cg, rfl, q1, q2, q3⟩
set_option linter.unusedSimpArgs false in
set_option maxRecDepth 100000 in
set_option maxHeartbeats 8000000 in
theorem c_Merges (A B C : Option Addr) (n c m d k f : Nat) (xs ys zs : List I3) (w : World) (hn : n ≤ 9223372036854775807) (hm : m ≤ 9223372036854775807) (hk : k ≤ 9223372036854775807) (hr : SlR w w.heap.size 3 A n (xs.flatMap c3)) (hs : SlR w w.heap.size 3 B m (ys.flatMap c3)) (ht : SlR w w.heap.size 3 C k (zs.flatMap c3))
    (hx : ∀ a ∈ xs, ok3 a) (hy : ∀ a ∈ ys, ok3 a) (hz : ∀ a ∈ zs, ok3 a) :
    Calls Try.prog 3 #[.slice A n c, .slice B m d, .slice C k f] w fun e w' => e = .returned (.bool true) ∧ Below w.heap.size w w' := by
  have hga := (given_ok 4 (by omega) xs).1
  have hgb := (given_ok 4 (by omega) ys).1
  have hgc := (given_ok 4 (by omega) zs).1
  have HG := hide (And.intro hga (And.intro hgb hgc))
  have HX := hide (And.intro hx (And.intro hy hz))
  have hla := (itsOk_parts hga).1
  have hlb := (itsOk_parts hgb).1
  have hlc := (itsOk_parts hgc).1
  have HR := hide (And.intro hr (And.intro hs ht))
  clear hga hgb hgc hr hs ht hx hy hz
  go_enter Try.func3, Try.ntmps3
  go_wp2_with fail
  refine (c_sane w).mono ?_
  rintro e w1 ⟨rfl, hb1⟩
  have hk1 := c_Given A n c xs 4 w1 hn (HR.out.1.to' hb1) HX.out.1 (by unfold okN; omega)
  have H1 := hide hb1
  clear hb1
  go_wp2_with fail
  refine hk1.mono ?_
  clear hk1
  rintro e w2 ⟨v8, rfl, ho2, hb2⟩
  obtain ⟨A8, c8, rfl, p1, p2, hsa⟩ := SlR.of_own ho2
  have hp2 : c8 ≤ 9223372036854775807 := by simpa [maxLen] using p2
  generalize givenL 4 xs = z at *
  have g8 := Blk.new w2 27 [.int .i64 4, .slice A8 z.length c8]
  have hb23 := balloc (Below.refl w2.heap.size w2) (.cells #[.int .i64 4, .slice A8 z.length c8] 27)
  have hk2 := c_Given B m d ys 4 (w2.alloc (.cells #[.int .i64 4, .slice A8 z.length c8] 27)) hm (HR.out.2.1.to' (bthen (bthen H1.out hb2) hb23)) HX.out.2.1 (by unfold okN; omega)
  have H2 := hide (And.intro (bthen (bthen H1.out hb2) hb23) (And.intro (hsa.to' hb23) (And.intro g8 (And.intro p1 hp2))))
  clear hb2 ho2 hsa hb23 g8 p1 p2 hp2
  go_wp2_with fail
  refine hk2.mono ?_
  clear hk2
  rintro e w3 ⟨v9, rfl, ho3, hb3⟩
  obtain ⟨A9, c9, rfl, p1, p2, hsb⟩ := SlR.of_own ho3
  have hp2 : c9 ≤ 9223372036854775807 := by simpa [maxLen] using p2
  generalize w2.alloc (.cells #[.int .i64 4, .slice A8 z.length c8] 27) = w2' at *
  generalize hb8e : w2.heap.size = b8 at *
  clear hb8e
  generalize givenL 4 ys = a at *
  have g9 := Blk.new w3 27 [.int .i64 4, .slice A9 a.length c9]
  have hb34 := balloc (Below.refl w3.heap.size w3) (.cells #[.int .i64 4, .slice A9 a.length c9] 27)
  have hb24 := bthen hb3 hb34
  have hk3 := c_Given C k f zs 4 (w3.alloc (.cells #[.int .i64 4, .slice A9 a.length c9] 27)) hk (HR.out.2.2.to' (bthen H2.out.1 hb24)) HX.out.2.2 (by unfold okN; omega)
  have H3 := hide (And.intro (bthen H2.out.1 hb24) (And.intro (H2.out.2.1.to' hb24) (And.intro (H2.out.2.2.1.below hb24 H2.out.2.2.1.lt) (And.intro (hsb.to' hb34) (And.intro g9 (And.intro p1 hp2))))))
  clear hb3 ho3 hsb hb34 hb24 g9 p1 p2 hp2
  go_wp2_with fail
  refine hk3.mono ?_
  clear hk3
  rintro e w4 ⟨v10, rfl, ho4, hb4⟩
  obtain ⟨A10, c10, rfl, p1, p2, hsc⟩ := SlR.of_own ho4
  have hp2 : c10 ≤ 9223372036854775807 := by simpa [maxLen] using p2
  generalize w3.alloc (.cells #[.int .i64 4, .slice A9 a.length c9] 27) = w3' at *
  generalize hb9e : w3.heap.size = b9 at *
  clear hb9e
  generalize givenL 4 zs = b at *
  have g10 := Blk.new w4 27 [.int .i64 4, .slice A10 b.length c10]
  have hb45 := balloc (Below.refl w4.heap.size w4) (.cells #[.int .i64 4, .slice A10 b.length c10] 27)
  have hb35 := bthen hb4 hb45
  have H4 : Hid (∀ W, Below (w4.alloc (.cells #[.int .i64 4, .slice A10 b.length c10] 27)).heap.size (w4.alloc (.cells #[.int .i64 4, .slice A10 b.length c10] 27)) W → (Blk W b8 27 [.int .i64 4, .slice A8 z.length c8] ∧ Blk W b9 27 [.int .i64 4, .slice A9 a.length c9] ∧ Blk W w4.heap.size 27 [.int .i64 4, .slice A10 b.length c10]) ∧
      (SlR W W.heap.size 6 A8 z.length (z.flatMap cI) ∧ SlR W W.heap.size 6 A9 a.length (a.flatMap cI) ∧ SlR W W.heap.size 6 A10 b.length (b.flatMap cI)) ∧ Below w.heap.size w W) := hide fun W hW => by
    have h8 := H3.out.2.2.1.below hb35 H3.out.2.2.1.lt
    have h9 := H3.out.2.2.2.2.1.below hb35 H3.out.2.2.2.2.1.lt
    exact ⟨⟨h8.below hW h8.lt, h9.below hW h9.lt, g10.below hW g10.lt⟩, ⟨(H3.out.2.1.to' hb35).to' hW, (H3.out.2.2.2.1.to' hb35).to' hW, (hsc.to' hb45).to' hW⟩, bthen (bthen H3.out.1 hb35) hW⟩
  have HC := hide (And.intro H2.out.2.2.2 (And.intro H3.out.2.2.2.2.2 (And.intro p1 hp2)))
  clear hb4 ho4 hsc hb45 hb35 g10 p1 p2 hp2
  generalize hw5 : w4.alloc (.cells #[.int .i64 4, .slice A10 b.length c10] 27) = w5 at *
  have hM := fun (W : World) (hW : Below w5.heap.size w5 W) => H4.out W hW
  have HM1 := hide (fun (W : World) (hW : Below w5.heap.size w5 W) => c_merge4 ⟨4, A8, z.length, c8⟩ ⟨4, A9, a.length, c9⟩ ⟨4, A8, z.length, c8⟩ z a z a W rfl rfl rfl (by show z.length ≤ _; omega) (by show a.length ≤ _; omega) (by show z.length ≤ _; omega) (hM W hW).2.1.1 (hM W hW).2.1.2.1 (hM W hW).2.1.1 HG.out.1 HG.out.2.1 HG.out.1 HG.out.2.1 (fun s h => mg_left HG.out.1 HG.out.2.1 h))
  have HM2 := hide (fun (W : World) (hW : Below w5.heap.size w5 W) => c_merge4 ⟨4, A8, z.length, c8⟩ ⟨4, A8, z.length, c8⟩ ⟨4, A10, b.length, c10⟩ z z b b W rfl rfl rfl (by show z.length ≤ _; omega) (by show z.length ≤ _; omega) (by show b.length ≤ _; omega) (hM W hW).2.1.1 (hM W hW).2.1.1 (hM W hW).2.1.2.2 HG.out.1 HG.out.1 HG.out.2.2 HG.out.2.2 (fun s h => mg_right HG.out.1 HG.out.2.2 h))
  have HM3 := hide (fun (W : World) (hW : Below w5.heap.size w5 W) => c_merge4 ⟨4, A8, z.length, c8⟩ ⟨4, A9, a.length, c9⟩ ⟨4, A9, a.length, c9⟩ z a a a W rfl rfl rfl (by show z.length ≤ _; omega) (by show a.length ≤ _; omega) (by show a.length ≤ _; omega) (hM W hW).2.1.1 (hM W hW).2.1.2.1 (hM W hW).2.1.2.1 HG.out.1 HG.out.2.1 HG.out.2.1 HG.out.2.1 (fun s h => mg_both HG.out.1 HG.out.2.1 h))
  clear hM
  obtain ⟨⟨k8, k9, k10⟩, -, -⟩ := H4.out w5 (Below.refl _ _)
  obtain ⟨x0, x1⟩ := k8.two
  obtain ⟨y0, y1⟩ := k9.two
  obtain ⟨z0, z1⟩ := k10.two
  have l8 := k8.lt
  have l9 := k9.lt
  have l10 := k10.lt
  have hm1 := HM1.out w5 (Below.refl _ _)
  go_wp2_with fail
  refine hm1.mono ?_
  clear hm1
  rintro e w6 ⟨hb6, Aa, ca, Ag, cg, rfl, q1, q2, q3⟩
  have g11 := Blk.new w6 27 [.int .i64 4, .slice Aa a.length ca]
  have hb67 := balloc (Below.refl w6.heap.size w6) (.cells #[.int .i64 4, .slice Aa a.length ca] 27)
  have hb57 := bthen hb6 hb67
  have hm2 := HM2.out _ hb57
  obtain ⟨⟨k8, k9, k10⟩, -, -⟩ := H4.out _ hb57
  have H6 := hide (And.intro hb57 (And.intro g11 (And.intro q1 (And.intro q2 (q3.to' hb67)))))
  clear x0 x1 y0 y1 z0 z1 l8 l9 l10 hb6 hb67 hb57 g11 q1 q2 q3
  obtain ⟨x0, x1⟩ := k8.two
  obtain ⟨y0, y1⟩ := k9.two
  obtain ⟨z0, z1⟩ := k10.two
  have l8 := k8.lt
  have l9 := k9.lt
  have l10 := k10.lt
  go_wp2_with fail
  refine hm2.mono ?_
  clear hm2
  rintro e w8 ⟨hb8, Ab, cb, Ah, ch, rfl, q1, q2, q3⟩
  generalize w6.alloc (.cells #[.int .i64 4, .slice Aa a.length ca] 27) = w7 at *
  generalize hb11e : w6.heap.size = b11 at *
  clear hb11e
  have g14 := Blk.new w8 27 [.int .i64 4, .slice Ab b.length cb]
  have hb89 := balloc (Below.refl w8.heap.size w8) (.cells #[.int .i64 4, .slice Ab b.length cb] 27)
  have hb79 := bthen hb8 hb89
  have hb59 := bthen H6.out.1 hb79
  have hm3 := HM3.out _ hb59
  obtain ⟨⟨k8, k9, k10⟩, -, -⟩ := H4.out _ hb59
  have g11 := H6.out.2.1.below hb79 H6.out.2.1.lt
  have H8 := hide (And.intro hb59 (And.intro g11 (And.intro g14 (And.intro (And.intro H6.out.2.2.1 H6.out.2.2.2.1) (And.intro (And.intro q1 q2) (And.intro (H6.out.2.2.2.2.to' hb79) (q3.to' hb89)))))))
  clear x0 x1 y0 y1 z0 z1 l8 l9 l10 hb8 hb89 hb79 hb59 g11 g14 q1 q2 q3
  obtain ⟨x0, x1⟩ := k8.two
  obtain ⟨y0, y1⟩ := k9.two
  obtain ⟨z0, z1⟩ := k10.two
  have l8 := k8.lt
  have l9 := k9.lt
  have l10 := k10.lt
  go_wp2_with fail
  refine hm3.mono ?_
  clear hm3
  rintro e w10 ⟨hb10, As, cs, Ai, ci, rfl, q1, q2, q3⟩
  generalize w8.alloc (.cells #[.int .i64 4, .slice Ab b.length cb] 27) = w9 at *
  generalize hb14e : w8.heap.size = b14 at *
  clear hb14e
  have g17 := Blk.new w10 27 [.int .i64 4, .slice As a.length cs]
  have hb1011 := balloc (Below.refl w10.heap.size w10) (.cells #[.int .i64 4, .slice As a.length cs] 27)
  have hb911 := bthen hb10 hb1011
  have hb511 := bthen H8.out.1 hb911
  have H10 : Hid (∀ W, Below (w10.alloc (.cells #[.int .i64 4, .slice As a.length cs] 27)).heap.size (w10.alloc (.cells #[.int .i64 4, .slice As a.length cs] 27)) W → (Blk W b11 27 [.int .i64 4, .slice Aa a.length ca] ∧ Blk W b14 27 [.int .i64 4, .slice Ab b.length cb] ∧ Blk W w10.heap.size 27 [.int .i64 4, .slice As a.length cs]) ∧
      (SlR W W.heap.size 6 Aa a.length (a.flatMap cI) ∧ SlR W W.heap.size 6 Ab b.length (b.flatMap cI) ∧ SlR W W.heap.size 6 As a.length (a.flatMap cI)) ∧ Below w5.heap.size w5 W) := hide fun W hW => by
    have h11 := H8.out.2.1.below hb911 H8.out.2.1.lt
    have h14 := H8.out.2.2.1.below hb911 H8.out.2.2.1.lt
    exact ⟨⟨h11.below hW h11.lt, h14.below hW h14.lt, g17.below hW g17.lt⟩, ⟨(H8.out.2.2.2.2.2.1.to' hb911).to' hW, (H8.out.2.2.2.2.2.2.to' hb911).to' hW, (q3.to' hb1011).to' hW⟩, bthen hb511 hW⟩
  clear x0 x1 y0 y1 z0 z1 l8 l9 l10 hb10 hb1011 hb911 hb511 g17 q1 q2 q3
  go_upto_region 10 with (fail)
  generalize w10.alloc (.cells #[.int .i64 4, .slice As a.length cs] 27) = w11 at *
  generalize hb17e : w10.heap.size = b17 at *
  clear hb17e
  have yb := fun (W : World) (hW : Below w11.heap.size w11 W) => H10.out W hW
  have ya := fun (W : World) (hW : Below w11.heap.size w11 W) => H4.out W (yb W hW).2.2
  have HS1 := hide (fun (W : World) (hW : Below w11.heap.size w11 W) => calls_b (c_rSame ⟨4, Aa, a.length, ca⟩ ⟨4, A9, a.length, c9⟩ a a W (by show a.length ≤ _; omega) (by show a.length ≤ _; omega) (yb W hW).2.1.1 (ya W hW).2.1.2.1) (b' := true) (by simp))
  have HS2 := hide (fun (W : World) (hW : Below w11.heap.size w11 W) => calls_b (c_rSame ⟨4, Ab, b.length, cb⟩ ⟨4, A10, b.length, c10⟩ b b W (by show b.length ≤ _; omega) (by show b.length ≤ _; omega) (yb W hW).2.1.2.1 (ya W hW).2.1.2.2) (b' := true) (by simp))
  have HS3 := hide (fun (W : World) (hW : Below w11.heap.size w11 W) => calls_b (c_rSame ⟨4, As, a.length, cs⟩ ⟨4, A9, a.length, c9⟩ a a W (by show a.length ≤ _; omega) (by show a.length ≤ _; omega) (yb W hW).2.1.2.2 (ya W hW).2.1.2.1) (b' := true) (by simp))
  clear yb ya
  have HH11 := hide (Below.refl w11.heap.size w11)
  obtain ⟨⟨ka, kb, kc⟩, -, hbk⟩ := H10.out w11 HH11.out
  obtain ⟨⟨-, kd, ke⟩, -, -⟩ := H4.out w11 hbk
  obtain ⟨a0, a1⟩ := ka.two
  obtain ⟨b0, b1⟩ := kb.two
  obtain ⟨c0, c1⟩ := kc.two
  obtain ⟨d0, d1⟩ := kd.two
  obtain ⟨e0, e1⟩ := ke.two
  have la := ka.lt
  have lb := kb.lt
  have lc := kc.lt
  have ld := kd.lt
  have le' := ke.lt
  have hcc := HS1.out w11 HH11.out
  go_wp2_with fail
  refine hcc.mono ?_
  clear hcc
  rintro e w12 ⟨rfl, hbn⟩
  have HH12 := hide (bthen HH11.out hbn)
  clear hbn hbk ka kb kc kd ke a0 a1 b0 b1 c0 c1 d0 d1 e0 e1 la lb lc ld le'
  obtain ⟨⟨ka, kb, kc⟩, -, hbk⟩ := H10.out w12 HH12.out
  obtain ⟨⟨-, kd, ke⟩, -, -⟩ := H4.out w12 hbk
  obtain ⟨a0, a1⟩ := ka.two
  obtain ⟨b0, b1⟩ := kb.two
  obtain ⟨c0, c1⟩ := kc.two
  obtain ⟨d0, d1⟩ := kd.two
  obtain ⟨e0, e1⟩ := ke.two
  have la := ka.lt
  have lb := kb.lt
  have lc := kc.lt
  have ld := kd.lt
  have le' := ke.lt
  have hcc := HS2.out w12 HH12.out
  go_wp2_with fail
  refine hcc.mono ?_
  clear hcc
  rintro e w13 ⟨rfl, hbn⟩
  have HH13 := hide (bthen HH12.out hbn)
  clear hbn hbk ka kb kc kd ke a0 a1 b0 b1 c0 c1 d0 d1 e0 e1 la lb lc ld le'
  obtain ⟨⟨ka, kb, kc⟩, -, hbk⟩ := H10.out w13 HH13.out
  obtain ⟨⟨-, kd, ke⟩, -, -⟩ := H4.out w13 hbk
  obtain ⟨a0, a1⟩ := ka.two
  obtain ⟨b0, b1⟩ := kb.two
  obtain ⟨c0, c1⟩ := kc.two
  obtain ⟨d0, d1⟩ := kd.two
  obtain ⟨e0, e1⟩ := ke.two
  have la := ka.lt
  have lb := kb.lt
  have lc := kc.lt
  have ld := kd.lt
  have le' := ke.lt
  have hcc := HS3.out w13 HH13.out
  go_wp2_with fail
  refine hcc.mono ?_
  clear hcc
  rintro e w14 ⟨rfl, hbn⟩
  have HH14 := hide (bthen HH13.out hbn)
  clear hbn hbk ka kb kc kd ke a0 a1 b0 b1 c0 c1 d0 d1 e0 e1 la lb lc ld le'
  obtain ⟨⟨-, -, -⟩, -, hbk⟩ := H10.out w14 HH14.out
  obtain ⟨⟨k8, k9, k10⟩, ⟨s8, s9, s10⟩, -⟩ := H4.out w14 hbk
  obtain ⟨x0, x1⟩ := k8.two
  obtain ⟨y0, y1⟩ := k9.two
  obtain ⟨z0, z1⟩ := k10.two
  have l8 := k8.lt
  have l9 := k9.lt
  have l10 := k10.lt
  have hm4 := c_Merge ⟨4, A8, z.length, c8⟩ ⟨4, A9, a.length, c9⟩ ⟨4, A10, b.length, c10⟩ ⟨4, z⟩ ⟨4, a⟩ ⟨4, b⟩ w14 rfl rfl rfl (by show z.length ≤ _; omega) (by show a.length ≤ _; omega) (by show b.length ≤ _; omega) s8 s9 s10
  clear s8 s9 s10
  go_wp2_with fail
  refine hm4.mono ?_
  clear hm4
  rintro e w15 ⟨hb15, ⟨hv, -⟩ | ⟨-, s4, hs4, ⟨hv4, rfl⟩ | ⟨hv4, Ac, nc, cc', v21, rfl, q1, q2, q3, q4⟩⟩⟩
  · rw [merge_ok HG.out.1 HG.out.2.1 HG.out.2.2] at hv; cases hv
  · clear x0 x1 y0 y1 z0 z1 l8 l9 l10
    have hb516 := bthen (bthen hbk (Below.refl _ _)) (bthen hb15 (balloc (Below.refl w15.heap.size w15) (.cells #[.int .i64 0, .slice none 0 0] 27)))
    obtain ⟨⟨k8, k9, k10⟩, ⟨s8, s9, s10⟩, hbw⟩ := H4.out _ hb516
    obtain ⟨x0, x1⟩ := k8.two
    obtain ⟨y0, y1⟩ := k9.two
    obtain ⟨z0, z1⟩ := k10.two
    have l8 := k8.lt
    have l9 := k9.lt
    have l10 := k10.lt
    have hm5 := c_Merge ⟨4, A8, z.length, c8⟩ ⟨4, A10, b.length, c10⟩ ⟨4, A9, a.length, c9⟩ ⟨4, z⟩ ⟨4, b⟩ ⟨4, a⟩ _ rfl rfl rfl (by show z.length ≤ _; omega) (by show b.length ≤ _; omega) (by show a.length ≤ _; omega) s8 s10 s9
    have HB5 := hide (And.intro hbw hb516)
    clear s8 s9 s10 hbw hb516
    go_wp2_with fail
    refine hm5.mono ?_
    clear hm5
    rintro e w17 ⟨hb17, ⟨hv, -⟩ | ⟨-, s5, hs5, ⟨hv5, rfl⟩ | ⟨hv5, Ad, nd, cd, v24, rfl, t1, t2, t3, t4⟩⟩⟩
    · rw [merge_ok HG.out.1 HG.out.2.2 HG.out.2.1] at hv; cases hv
    · have HE := hide (bthen HB5.out.1 (bthen hb17 (balloc (Below.refl w17.heap.size w17) (.cells #[.int .i64 0, .slice none 0 0] 27))))
      clear hb17
      go_wp2_with fail
      go_ret
      exact ⟨rfl, HE.out⟩
    · have HE := hide (bthen HB5.out.1 (bthen hb17 (balloc (Below.refl w17.heap.size w17) (.cells #[.int .i64 4, .slice Ad nd cd] 27))))
      clear hb17
      go_wp2_with fail
      go_ret
      exact ⟨rfl, HE.out⟩
  · clear x0 x1 y0 y1 z0 z1 l8 l9 l10
    obtain ⟨Ax, cx, rfl, r1, r2, r3⟩ := SlR.of_own q4
    clear q4
    have hb516 := bthen (bthen hbk (Below.refl _ _)) (bthen hb15 (balloc (Below.refl w15.heap.size w15) (.cells #[.int .i64 4, .slice Ac nc cc'] 27)))
    obtain ⟨⟨k8, k9, k10⟩, ⟨s8, s9, s10⟩, hbw⟩ := H4.out _ hb516
    obtain ⟨x0, x1⟩ := k8.two
    obtain ⟨y0, y1⟩ := k9.two
    obtain ⟨z0, z1⟩ := k10.two
    have l8 := k8.lt
    have l9 := k9.lt
    have l10 := k10.lt
    have hm5 := c_Merge ⟨4, A8, z.length, c8⟩ ⟨4, A10, b.length, c10⟩ ⟨4, A9, a.length, c9⟩ ⟨4, z⟩ ⟨4, b⟩ ⟨4, a⟩ _ rfl rfl rfl (by show z.length ≤ _; omega) (by show b.length ≤ _; omega) (by show a.length ≤ _; omega) s8 s10 s9
    have HB5 := hide (And.intro hbw hb516)
    clear s8 s9 s10 hbw hb516
    go_wp2_with fail
    refine hm5.mono ?_
    clear hm5
    rintro e w17 ⟨hb17, ⟨hv, -⟩ | ⟨-, s5, hs5, ⟨hv5, rfl⟩ | ⟨hv5, Ad, nd, cd, v24, rfl, t1, t2, t3, t4⟩⟩⟩
    · rw [merge_ok HG.out.1 HG.out.2.2 HG.out.2.1] at hv; cases hv
    · have HE := hide (bthen HB5.out.1 (bthen hb17 (balloc (Below.refl w17.heap.size w17) (.cells #[.int .i64 0, .slice none 0 0] 27))))
      clear hb17
      go_wp2_with fail
      go_ret
      exact ⟨rfl, HE.out⟩
    · obtain ⟨Ay, cy, rfl, u1, u2, u3⟩ := SlR.of_own t4
      clear t4
      have hb1718 := balloc (Below.refl w17.heap.size w17) (.cells #[.int .i64 4, .slice Ad nd cd] 27)
      have HQ4 := hide (And.intro q1 (And.intro q2 (And.intro hs4 hv4)))
      have HQ5 := hide (And.intro t1 (And.intro t2 (And.intro hs5 hv5)))
      have hb1517 := bthen (balloc (Below.refl w15.heap.size w15) (.cells #[.int .i64 4, .slice Ac nc cc'] 27)) hb17
      have HL : Hid (∀ W, Below (w17.alloc (.cells #[.int .i64 4, .slice Ad nd cd] 27)).heap.size (w17.alloc (.cells #[.int .i64 4, .slice Ad nd cd] 27)) W → (SlR W W.heap.size 6 Ac nc (s4.flatMap cI) ∧ SlR W W.heap.size 6 Ad nd (s5.flatMap cI)) ∧ (SlR W W.heap.size 1 Ax (mgG (byL z) (byL a) (byL b) 100).length ((mgG (byL z) (byL a) (byL b) 100).flatMap cN) ∧ SlR W W.heap.size 1 Ay (mgG (byL z) (byL b) (byL a) 100).length ((mgG (byL z) (byL b) (byL a) 100).flatMap cN)) ∧
          (Blk W b11 27 [.int .i64 4, .slice Aa a.length ca] ∧ Blk W w15.heap.size 27 [.int .i64 4, .slice Ac nc cc'] ∧ Blk W w17.heap.size 27 [.int .i64 4, .slice Ad nd cd]) ∧ Below w5.heap.size w5 W) := hide fun W hW => by
        have hA := bthen (bthen hb1517 hb1718) hW
        have hB := bthen hb1718 hW
        have g20 := (Blk.new w15 27 [.int .i64 4, .slice Ac nc cc']).below (bthen (bthen hb17 hb1718) hW) (Blk.new w15 27 [.int .i64 4, .slice Ac nc cc']).lt
        have g23 := (Blk.new w17 27 [.int .i64 4, .slice Ad nd cd]).below hW (Blk.new w17 27 [.int .i64 4, .slice Ad nd cd]).lt
        have h5W : Below w5.heap.size w5 W := bthen (bthen HB5.out.2 (bthen hb17 hb1718)) hW
        have h11 := (H10.out w14 HH14.out).1.1
        have h14W : Below w14.heap.size w14 W := bthen hb15 hA
        exact ⟨⟨q3.to' hA, t3.to' hB⟩, ⟨r3.to' hA, u3.to' hB⟩, ⟨h11.below h14W h11.lt, g20, g23⟩, h5W⟩
      clear hb1718 hb1517 q1 q2 q3 t1 t2 t3 r1 r2 r3 u1 u2 u3 hs4 hv4 hs5 hv5 hb17 hb15
      go_wp2_with fail
      generalize w17.alloc (.cells #[.int .i64 4, .slice Ad nd cd] 27) = w18 at *
      have HN := hide (show mgG (byL z) (byL b) (byL a) 100 = mgG (byL z) (byL a) (byL b) 100 from (mgG_sym _ _ _).symm)
      obtain ⟨GL, hGL⟩ : ∃ GL, GL = mgG (byL z) (byL a) (byL b) := ⟨_, rfl⟩
      have HGL := hide hGL
      rw [HN.out] at HL
      rw [HN.out]
      simp only [← hGL] at HL ⊢
      clear hGL
      go_loopw [26, 27] (fun at' n wr => ∃ k : Nat, k ≤ 100 ∧ n = .int .i64 k ∧ at' = .int .i64 ((GL k).length : Nat) ∧ Below w18.heap.size w18 wr) (fun _ n _ => 100 - (intOf n).toNat)
      case atStart => exact ⟨0, by omega, rfl, by rw [HGL.out]; rfl, Below.refl _ _⟩
      case round =>
        obtain ⟨k, hk, rfl, rfl, hbr⟩ := hrel
        by_cases hlt : k < 100
        · have HBR := hide hbr
          obtain ⟨-, -, -, h5⟩ := HL.out wr hbr
          obtain ⟨⟨k8, k9, k10⟩, ⟨s8, s9, s10⟩, -⟩ := H4.out wr h5
          obtain ⟨x0, x1⟩ := k8.two
          have l8 := k8.lt
          have hi1 := c_rItemX A8 z.length c8 z k wr (by omega) s8
          clear s8 s9 s10 k8 k9 k10 h5 hbr
          go_wp2_with fail
          refine hi1.mono ?_
          clear hi1
          rintro e w21 ⟨rfl, hb21⟩
          have HFA := hide (flag_eq HG.out.1 HG.out.2.1 (k : Int))
          have HFB := hide (flag_eq HG.out.1 HG.out.2.2 (k : Int))
          have HFC := hide (flag_eq HG.out.2.1 HG.out.2.2 (k : Int))
          have HCT := hide (show mgC (atI' (byL z) k) (atI' (byL a) k) (atI' (byL b) k) = mgC (atI' z k) (atI' a k) (atI' b k) by rw [atI_byL HG.out.1, atI_byL HG.out.2.1, atI_byL HG.out.2.2])
          generalize hX : atI' z k = X at *
          generalize hbX : (getI z k).isSome = bX at *
          clear hX hbX
          have gX : Blk (w21.alloc (.cells #[.int .i64 X.id, .int .i64 X.kind, .int .i64 X.x, .int .i64 X.y, .string X.text, .int .i64 X.mod] 36)) w21.heap.size 36 (cI X) := Blk.new w21 36 (cI X)
          have hb2122 := balloc (Below.refl w21.heap.size w21) (.cells #[.int .i64 X.id, .int .i64 X.kind, .int .i64 X.x, .int .i64 X.y, .string X.text, .int .i64 X.mod] 36)
          have hbr22 := bthen (bthen HBR.out hb21) hb2122
          obtain ⟨-, -, -, h5⟩ := HL.out _ hbr22
          obtain ⟨⟨k8, k9, k10⟩, ⟨s8, s9, s10⟩, -⟩ := H4.out _ h5
          obtain ⟨y0, y1⟩ := k9.two
          have l9 := k9.lt
          have hi2 := c_rItemX A9 a.length c9 a k _ (by omega) s9
          have HB22 := hide hbr22
          clear x0 x1 l8 s8 s9 s10 k8 k9 k10 h5 hb21 hb2122 hbr22
          go_wp2_with fail
          refine hi2.mono ?_
          clear hi2
          rintro e w23 ⟨rfl, hb23⟩
          generalize hY : atI' a k = Y at *
          generalize hbY : (getI a k).isSome = bY at *
          clear hY hbY
          have gX3 := gX.below hb23 gX.lt
          generalize w21.alloc (.cells #[.int .i64 X.id, .int .i64 X.kind, .int .i64 X.x, .int .i64 X.y, .string X.text, .int .i64 X.mod] 36) = w22 at *
          generalize hxb : w21.heap.size = xb at *
          clear hxb gX
          have gY : Blk (w23.alloc (.cells #[.int .i64 Y.id, .int .i64 Y.kind, .int .i64 Y.x, .int .i64 Y.y, .string Y.text, .int .i64 Y.mod] 36)) w23.heap.size 36 (cI Y) := Blk.new w23 36 (cI Y)
          have gX4 := gX3.alloc (.cells #[.int .i64 Y.id, .int .i64 Y.kind, .int .i64 Y.x, .int .i64 Y.y, .string Y.text, .int .i64 Y.mod] 36)
          have hb2324 := balloc (Below.refl w23.heap.size w23) (.cells #[.int .i64 Y.id, .int .i64 Y.kind, .int .i64 Y.x, .int .i64 Y.y, .string Y.text, .int .i64 Y.mod] 36)
          have hbr24 := bthen (bthen HB22.out hb23) hb2324
          obtain ⟨-, -, -, h5⟩ := HL.out _ hbr24
          obtain ⟨⟨k8, k9, k10⟩, ⟨s8, s9, s10⟩, -⟩ := H4.out _ h5
          obtain ⟨z0, z1⟩ := k10.two
          have l10 := k10.lt
          have hi3 := c_rItemX A10 b.length c10 b k _ (by omega) s10
          have HB24 := hide hbr24
          clear y0 y1 l9 s8 s9 s10 k8 k9 k10 h5 hb23 hb2324 hbr24 gX3
          go_wp2_with fail
          refine hi3.mono ?_
          clear hi3
          rintro e w25 ⟨rfl, hb25⟩
          generalize hZ : atI' b k = Z at *
          generalize hbZ : (getI b k).isSome = bZ at *
          clear hZ hbZ
          have gX5 := (gX4.below hb25 gX4.lt).alloc (.cells #[.int .i64 Z.id, .int .i64 Z.kind, .int .i64 Z.x, .int .i64 Z.y, .string Z.text, .int .i64 Z.mod] 36)
          have gY5 := (gY.below hb25 gY.lt).alloc (.cells #[.int .i64 Z.id, .int .i64 Z.kind, .int .i64 Z.x, .int .i64 Z.y, .string Z.text, .int .i64 Z.mod] 36)
          have gZ : Blk (w25.alloc (.cells #[.int .i64 Z.id, .int .i64 Z.kind, .int .i64 Z.x, .int .i64 Z.y, .string Z.text, .int .i64 Z.mod] 36)) w25.heap.size 36 (cI Z) := Blk.new w25 36 (cI Z)
          have hbr26 := bthen (bthen HB24.out hb25) (balloc (Below.refl w25.heap.size w25) (.cells #[.int .i64 Z.id, .int .i64 Z.kind, .int .i64 Z.x, .int .i64 Z.y, .string Z.text, .int .i64 Z.mod] 36))
          have HB26 := hide hbr26
          clear z0 z1 l10 hb25 hbr26 gX4 gY
          go_upto_region 23 with (fail)
          generalize w25.alloc (.cells #[.int .i64 Z.id, .int .i64 Z.kind, .int .i64 Z.x, .int .i64 Z.y, .string Z.text, .int .i64 Z.mod] 36) = w26 at *
          generalize hyb : w23.heap.size = yb at *
          generalize hzb : w25.heap.size = zb at *
          clear hyb hzb
          have GXh := hide gX5
          have GYh := hide gY5
          have GZh := hide gZ
          clear gX5 gY5 gZ
          go_cut [34] from 168 to 178 (fun u wx => u = .bool (!decide (X = Y)) ∧ w26 = wx)
          case first =>
            have hn1 := fun w => neqIt w X Y
            have hf := HFA.out
            obtain ⟨x0, x1, x2, x3, x4, x5⟩ := GXh.out.allI
            obtain ⟨y0, y1, y2, y3, y4, y5⟩ := GYh.out.allI
            have lx := GXh.out.lt
            have ly := GYh.out.lt
            cases bX <;> cases bY <;> (go_wp2_with fail; go_meet; exact ⟨congrArg Value.bool hf, rfl⟩)
          case rest =>
            obtain ⟨rfl, rfl⟩ := hcut
            go_upto_region 24 with (fail)
            go_cut [35] from 179 to 189 (fun u wx => u = .bool (!decide (X = Z)) ∧ w26 = wx)
            case first =>
              have hn1 := fun w => neqIt w X Z
              have hf := HFB.out
              obtain ⟨x0, x1, x2, x3, x4, x5⟩ := GXh.out.allI
              obtain ⟨y0, y1, y2, y3, y4, y5⟩ := GZh.out.allI
              have lx := GXh.out.lt
              have ly := GZh.out.lt
              cases bX <;> cases bZ <;> (go_wp2_with fail; go_meet; exact ⟨congrArg Value.bool hf, rfl⟩)
            case rest =>
              obtain ⟨rfl, rfl⟩ := hcut
              go_upto_region 25 with (fail)
              go_cut [36] from 190 to 200 (fun u wx => u = .bool (!decide (Y = Z)) ∧ w26 = wx)
              case first =>
                have hn1 := fun w => neqIt w Y Z
                have hf := HFC.out
                obtain ⟨x0, x1, x2, x3, x4, x5⟩ := GYh.out.allI
                obtain ⟨y0, y1, y2, y3, y4, y5⟩ := GZh.out.allI
                have lx := GYh.out.lt
                have ly := GZh.out.lt
                cases bY <;> cases bZ <;> (go_wp2_with fail; go_meet; exact ⟨congrArg Value.bool hf, rfl⟩)
              case rest =>
                obtain ⟨rfl, rfl⟩ := hcut
                go_upto_region 26 with (fail)
                have HK : Hid (GL (k + 1) = if ((!decide (X = Y)) && (!decide (X = Z)) && (!decide (Y = Z))) then GL k ++ [(k : Int)] else GL k) := hide (by
                  rw [HGL.out]
                  show (if mgC _ _ _ = true then _ else _) = _
                  rw [HCT.out, mgC_flags])
                generalize (!decide (X = Y)) = bA at *
                generalize (!decide (X = Z)) = bB at *
                generalize (!decide (Y = Z)) = bC at *
                cases bA
                · have HKN := hide (show GL (k + 1) = GL k by rw [HK.out]; rfl)
                  clear HK
                  go_wp2_with fail
                  go_roundw
                  case rel => exact ⟨k + 1, by omega, by go_num, by rw [HKN.out], HB26.out⟩
                  case measure => simp [intOf]; omega
                · cases bB
                  · have HKN := hide (show GL (k + 1) = GL k by rw [HK.out]; rfl)
                    clear HK
                    go_wp2_with fail
                    go_roundw
                    case rel => exact ⟨k + 1, by omega, by go_num, by rw [HKN.out], HB26.out⟩
                    case measure => simp [intOf]; omega
                  · cases bC
                    · have HKN := hide (show GL (k + 1) = GL k by rw [HK.out]; rfl)
                      clear HK
                      go_wp2_with fail
                      go_roundw
                      case rel => exact ⟨k + 1, by omega, by go_num, by rw [HKN.out], HB26.out⟩
                      case measure => simp [intOf]; omega
                    · have hpre := mgG_mono (byL z) (byL a) (byL b) 100 (k + 1) (by omega)
                      rw [← HGL.out, HK.out] at hpre
                      obtain ⟨tl, htl⟩ := hpre
                      have hlen : (GL k).length < (GL 100).length := by rw [← htl]; simp
                      have hget : (GL 100)[(GL k).length] = (k : Int) := by simp [← htl]
                      have hlG : (GL 100).length ≤ 100 := by rw [HGL.out]; exact mgG_len _ _ _ 100
                      obtain ⟨-, ⟨sG, -⟩, -, -⟩ := HL.out w26 HB26.out
                      obtain ⟨b0, off, hAe, hbb, x0⟩ := sG.atN (Below.refl _ _) hlen
                      rw [hget] at x0
                      have HKL := hide (show (GL (k + 1)).length = (GL k).length + 1 by rw [HK.out]; simp)
                      have hlt' : ((GL k).length : Int) < ((GL 100).length : Int) := by omega
                      have HT := hide htl
                      clear htl hget sG HK
                      subst hAe
                      go_wp2_with fail
                      go_roundw
                      case rel => exact ⟨k + 1, by omega, by go_num, congrArg (Value.int .i64) (by rw [HKL.out]; omega), HB26.out⟩
                      case measure => simp [intOf]; omega
        · have hk100 : k = 100 := by omega
          subst hk100
          obtain ⟨⟨s4', s5'⟩, ⟨sG, sG'⟩, ⟨h11, h20, h23⟩, h5⟩ := HL.out wr hbr
          have hki := c_rInts Ax (GL 100).length cx (GL 100) Ay (GL 100).length cy (GL 100) wr (by have := sG.lenN; rw [HGL.out]; have := mgG_len (byL z) (byL a) (byL b) 100; omega) (by have := sG.lenN; rw [HGL.out]; have := mgG_len (byL z) (byL a) (byL b) 100; omega) sG sG'
          have hki' := calls_b hki (b' := true) (by simp)
          have HBR := hide hbr
          clear hki sG sG' s4' s5' h11 h20 h23 hbr
          go_wp2_with fail
          refine hki'.mono ?_
          clear hki'
          rintro e w19 ⟨rfl, hb19⟩
          have HB19 := hide (bthen HBR.out hb19)
          obtain ⟨⟨s4', s5'⟩, -, ⟨h11, h20, h23⟩, h5⟩ := HL.out w19 HB19.out
          have HW := hide (show Below w.heap.size w w19 from (H4.out w19 h5).2.2)
          have hlG : (GL 100).length ≤ 100 := by rw [HGL.out]; exact mgG_len _ _ _ 100
          by_cases hpos : 0 < (GL 100).length
          · have hpos' : (0 : Int) < ((GL 100).length : Int) := by omega
            clear s4' s5' h11 h20 h23 h5 hb19
            go_wp2_with fail
            go_ret
            exact ⟨rfl, HW.out⟩
          · have hpos' : ¬ (0 : Int) < ((GL 100).length : Int) := by omega
            have hnil : GL 100 = [] := List.eq_nil_of_length_eq_zero (by omega)
            have hss : s4 = s5 := mg_sym (by rw [← HGL.out]; exact hnil) HQ4.out.2.2.1 HQ5.out.2.2.1
            subst hss
            obtain ⟨x0, x1⟩ := h20.two
            obtain ⟨y0, y1⟩ := h23.two
            have l20 := h20.lt
            have l23 := h23.lt
            have hks := calls_b (c_rSame ⟨4, Ac, nc, cc'⟩ ⟨4, Ad, nd, cd⟩ s4 s4 w19 (by show nc ≤ _; have := HQ4.out; omega) (by show nd ≤ _; have := HQ5.out; omega) s4' s5') (b' := true) (by simp)
            have HNL := hide hnil
            clear s4' s5' h11 h20 h23 h5 hb19 hnil
            go_wp2_with fail
            refine hks.mono ?_
            clear hks
            rintro e w20 ⟨rfl, hb20⟩
            have HZ := hide (bthen HW.out hb20)
            clear hb20
            go_wp2_with fail
            go_ret
            exact ⟨rfl, HZ.out⟩
end Go.Proofs.Ytncdombfhcfobaa
