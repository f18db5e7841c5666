/- ModuleDiffers: what the law's function does. -/
import Derived.Test.YtncdombfhcfobaaM35b
import Derived.Test.YtncdombfhcfobaaM38
namespace Go.Proofs.Ytncdombfhcfobaa
open Go.RowKit

set_option linter.unusedSimpArgs false in
set_option maxRecDepth 100000 in
set_option maxHeartbeats 4000000 in
theorem c_Differs (A : Option Addr) (n c : Nat) (xs : List I3) (B : Option Addr) (m d : Nat) (ys : List I3) (w : World) (hn : n ≤ 9223372036854775807) (hm : m ≤ 9223372036854775807) (hr : SlR w w.heap.size 3 A n (xs.flatMap c3)) (hs : SlR w w.heap.size 3 B m (ys.flatMap c3)) (hx : ∀ a ∈ xs, ok3 a) (hy : ∀ a ∈ ys, ok3 a) :
    Calls Try.prog 8 #[.slice A n c, .slice B m d] w fun e w' => e = .returned (.bool true) ∧ Below w.heap.size w w' := by
  obtain ⟨hga, hka⟩ := given_ok 1 (by omega) xs
  obtain ⟨hgb, hkb⟩ := given_ok 1 (by omega) ys
  have hka' : ∀ s ∈ givenL 1 xs, s.kind ≠ 2 := fun s hs e => by have := (hka s hs e).1; omega
  have hkb' : ∀ s ∈ givenL 1 ys, s.kind ≠ 2 := fun s hs e => by have := (hkb s hs e).1; omega
  have hla := (itsOk_parts hga).1
  have hlb := (itsOk_parts hgb).1
  have HG := hide (And.intro hga (And.intro hgb (And.intro hka' (And.intro hkb' (And.intro hx hy)))))
  have HR := hide (And.intro hr hs)
  clear hga hgb hka hkb hka' hkb' hr hs hx hy
  go_enter Try.func8, Try.ntmps8
  go_wp2_with fail
  refine (c_sane w).mono ?_
  rintro e w1 ⟨rfl, hb1⟩
  have hk1 := c_Given A n c xs 1 w1 hn (HR.out.1.to' hb1) HG.out.2.2.2.2.1 (by unfold okN; omega)
  have H1 := hide hb1
  clear hb1
  go_wp2_with fail
  refine hk1.mono ?_
  clear hk1
  rintro e w2 ⟨v6, rfl, ho2, hb2⟩
  have hb02 := bthen H1.out hb2
  have hk2 := c_Given B m d ys 1 w2 hm (HR.out.2.to' hb02) HG.out.2.2.2.2.2 (by unfold okN; omega)
  obtain ⟨A6, c6, rfl, p1, p2, hsa⟩ := SlR.of_own ho2
  have H2 := hide (And.intro hb02 hsa)
  clear hb2 ho2 hb02 hsa
  go_wp2_with fail
  refine hk2.mono ?_
  clear hk2
  rintro e w3 ⟨v7, rfl, ho3, hb3⟩
  obtain ⟨A7, c7, rfl, p3, p4, hsb⟩ := SlR.of_own ho3
  have hsa3 := H2.out.2.to' hb3
  have H3 := hide (And.intro (bthen H2.out.1 hb3) (And.intro hsa3 hsb))
  clear hb3 ho3 hsa3 hsb
  generalize givenL 1 xs = a at *
  generalize givenL 1 ys = b at *
  have hp2 : c6 ≤ 9223372036854775807 := by simpa [maxLen] using p2
  have hp4 : c7 ≤ 9223372036854775807 := by simpa [maxLen] using p4
  have hk3 := c_Differ A6 a.length c6 a A7 b.length c7 b w3 (by omega) (by omega) H3.out.2.1 H3.out.2.2
  go_wp2_with fail
  refine hk3.mono ?_
  clear hk3
  rintro e w4 ⟨hb4, ⟨hv, -⟩ | ⟨-, v8, v9, rfl, ho8, ho9⟩⟩
  · rw [HG.out.1, HG.out.2.1] at hv; cases hv
  obtain ⟨A8, c8, rfl, q1, q2, hs8⟩ := SlR.of_own ho8
  obtain ⟨A9, c9, rfl, q3, q4, hs9⟩ := SlR.of_own ho9
  have hsa4 := H3.out.2.1.to' hb4
  have hk4 := c_Differ A6 a.length c6 a A6 a.length c6 a w4 (by omega) (by omega) hsa4 hsa4
  have H4 := hide (And.intro (bthen H3.out.1 hb4) (And.intro hsa4 (And.intro (H3.out.2.2.to' hb4) (And.intro hs8 hs9))))
  clear hb4 ho8 ho9 hs8 hs9 hsa4
  go_wp2_with fail
  refine hk4.mono ?_
  clear hk4
  rintro e w5 ⟨hb5, ⟨hv, -⟩ | ⟨-, v10, v11, rfl, ho10, ho11⟩⟩
  · rw [HG.out.1] at hv; cases hv
  rw [chg_self HG.out.1] at ho10
  rw [gone_self HG.out.1] at ho11
  obtain ⟨A10, c10, rfl, -, -, -⟩ := SlR.of_own ho10
  obtain ⟨A11, c11, rfl, -, -, -⟩ := SlR.of_own ho11
  simp only [List.length_nil]
  have hq2 : c8 ≤ 9223372036854775807 := by simpa [maxLen] using q2
  have hq4 : c9 ≤ 9223372036854775807 := by simpa [maxLen] using q4
  have HQ := hide (And.intro q1 (And.intro hq2 (And.intro q3 (And.intro hq4 (And.intro p1 hp2)))))
  have H5 := hide (And.intro (bthen H4.out.1 hb5) hb5)
  clear hb5 ho10 ho11 q1 q2 q3 q4 hq2 hq4
  have gM := Blk.new (w5.alloc (.cells #[.int .i64 1, .int .i64 1, .int .i64 0, .int .i64 0, .slice A8 (chgL a b).length c8, .slice A9 (goneL a b).length c9] 45)) 27 [.int .i64 1, .slice A6 a.length c6]
  have hb57 := balloc (balloc (Below.refl w5.heap.size w5) (.cells #[.int .i64 1, .int .i64 1, .int .i64 0, .int .i64 0, .slice A8 (chgL a b).length c8, .slice A9 (goneL a b).length c9] 45)) (.cells #[.int .i64 1, .slice A6 a.length c6] 27)
  simp only [World.size_alloc] at gM
  change Blk ((w5.alloc (.cells #[.int .i64 1, .int .i64 1, .int .i64 0, .int .i64 0, .slice A8 (chgL a b).length c8, .slice A9 (goneL a b).length c9] 45)).alloc (.cells #[.int .i64 1, .slice A6 a.length c6] 27)) _ _ _ at gM
  go_wp2_with fail
  generalize (w5.alloc (.cells #[.int .i64 1, .int .i64 1, .int .i64 0, .int .i64 0, .slice A8 (chgL a b).length c8, .slice A9 (goneL a b).length c9] 45)).alloc (.cells #[.int .i64 1, .slice A6 a.length c6] 27) = w7 at *
  have hb47 := bthen H5.out.2 hb57
  have hkI := c_Items (some ⟨w5.heap.size + 1, 0, none⟩) 1 1 [⟨1, A6, a.length, c6⟩] [⟨1, a⟩] ⟨1, 1, 0, 0, A8, (chgL a b).length, c8, A9, (goneL a b).length, c9⟩ (dfC a b) w7 (by omega) (gM.slr rfl)
    ((Mods.nil w7).cons rfl HQ.out.2.2.2.2.1 HQ.out.2.2.2.2.2 (H4.out.2.1.to' hb47)) ⟨⟨rfl, rfl, rfl, rfl⟩, ⟨HQ.out.1, HQ.out.2.1, H4.out.2.2.2.1.to' hb47⟩, ⟨HQ.out.2.2.1, HQ.out.2.2.2.1, H4.out.2.2.2.2.to' hb47⟩⟩
  refine hkI.mono ?_
  clear hkI gM
  rintro e w8 ⟨hb8, ⟨hv, -⟩ | ⟨v13, s, -, hso, rfl, ho13⟩⟩
  · rw [differ_valid HG.out.1 HG.out.2.1 HG.out.2.2.1 HG.out.2.2.2.1] at hv; cases hv
  obtain rfl := differ_made HG.out.1 HG.out.2.1 hso
  obtain ⟨A13, c13, rfl, t1, t2, hs13⟩ := SlR.of_own ho13
  have hb48 := bthen hb47 hb8
  have hk8 := c_rSameItems A13 s.length c13 s A7 s.length c7 s w8 (by omega) (by omega) hs13 (H4.out.2.2.1.to' hb48)
  have H8 := hide (bthen (bthen H5.out.1 hb57) hb8)
  clear hso ho13 hs13 hb8 hb57 hb47 hb48
  simp only [decide_true] at hk8
  go_wp2_with fail
  refine hk8.mono ?_
  clear hk8
  rintro e w9 ⟨rfl, hb9⟩
  have H9 := hide (bthen H8.out hb9)
  clear hb9
  go_wp2_with fail
  go_ret
  exact ⟨rfl, H9.out⟩
end Go.Proofs.Ytncdombfhcfobaa
