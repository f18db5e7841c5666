/- The walk of StampClocksMatchReference: it returns true, whatever the input. -/
import Derived.Test.YtenhghkiapkejaaSameP
import Derived.Test.YtenhghkiapkejaaW23
import Derived.Test.YtenhghkiapkejaaW22
import Derived.Deep.DeepCutAuto
import Derived.Deep.RegionHeld3
import Derived.BigRegion
import Derived.Test.YtenhghkiapkejaaRq
namespace Go.Proofs.Ytenhghkiapkejaa
open Go.RowKit
theorem one3 (l : List I3) (u : Value) (h : u ∈ l.flatMap c3) : u.oneCell' = true := by
  obtain ⟨s, _, hu⟩ := List.mem_flatMap.1 h
  simp only [c3, List.mem_cons, List.not_mem_nil, or_false] at hu
  rcases hu with rfl | rfl | rfl <;> rfl
theorem one4 (l : List I4) (u : Value) (h : u ∈ l.flatMap c4) : u.oneCell' = true := by
  obtain ⟨s, _, hu⟩ := List.mem_flatMap.1 h
  simp only [c4, List.mem_cons, List.not_mem_nil, or_false] at hu
  rcases hu with rfl | rfl | rfl | rfl <;> rfl
theorem own_emp {w W : World} {t : TypeId} {k : Nat} (h : Below w.heap.size w W) : (W.alloc (.cells #[] t)).ownsRow w.heap.size t k (.slice (some ⟨W.heap.size, 0, none⟩) 0 0) 0 [] :=
  ⟨by simp, .inr ⟨W.heap.size, 0, #[], rfl, h.size, heap_alloc_new W (.cells #[] t), Nat.le_refl _, Nat.zero_le _, by simp, by simp⟩⟩
theorem three_keep {w4 : World} {n g q : Nat} {s : I3} {a b e : Value} (h : Blk w4 n 41 (c3 s)) (hne : n ≠ g) : ((((w4.setCell ⟨g, q * 3, none⟩ a).setCell ⟨g, q * 3 + 1, none⟩ b).setCell ⟨g, q * 3 + 2, none⟩ e).drew).cell? ⟨n, 0, none⟩ = some (.int .i64 s.1) ∧
    ((((w4.setCell ⟨g, q * 3, none⟩ a).setCell ⟨g, q * 3 + 1, none⟩ b).setCell ⟨g, q * 3 + 2, none⟩ e).drew).cell? ⟨n, 1, none⟩ = some (.int .i64 s.2.1) ∧
    ((((w4.setCell ⟨g, q * 3, none⟩ a).setCell ⟨g, q * 3 + 1, none⟩ b).setCell ⟨g, q * 3 + 2, none⟩ e).drew).cell? ⟨n, 2, none⟩ = some (.int .i64 s.2.2) := by
  have hx := (((h.other (p := ⟨g, q * 3, none⟩) hne a).other (p := ⟨g, q * 3 + 1, none⟩) hne b).other (p := ⟨g, q * 3 + 2, none⟩) hne e).drew.all3
  exact ⟨hx.1, hx.2.1, hx.2.2.1⟩
theorem four_keep {w4 : World} {n g q : Nat} {s : I4} {a b e f : Value} (h : Blk w4 n 43 (c4 s)) (hne : n ≠ g) : (((((w4.setCell ⟨g, q * 4, none⟩ a).setCell ⟨g, q * 4 + 1, none⟩ b).setCell ⟨g, q * 4 + 2, none⟩ e).setCell ⟨g, q * 4 + 3, none⟩ f).drew).cell? ⟨n, 0, none⟩ = some (.int .i64 s.1) ∧
    (((((w4.setCell ⟨g, q * 4, none⟩ a).setCell ⟨g, q * 4 + 1, none⟩ b).setCell ⟨g, q * 4 + 2, none⟩ e).setCell ⟨g, q * 4 + 3, none⟩ f).drew).cell? ⟨n, 1, none⟩ = some (.int .i64 s.2.1) ∧
    (((((w4.setCell ⟨g, q * 4, none⟩ a).setCell ⟨g, q * 4 + 1, none⟩ b).setCell ⟨g, q * 4 + 2, none⟩ e).setCell ⟨g, q * 4 + 3, none⟩ f).drew).cell? ⟨n, 2, none⟩ = some (.int .i64 s.2.2.1) ∧
    (((((w4.setCell ⟨g, q * 4, none⟩ a).setCell ⟨g, q * 4 + 1, none⟩ b).setCell ⟨g, q * 4 + 2, none⟩ e).setCell ⟨g, q * 4 + 3, none⟩ f).drew).cell? ⟨n, 3, none⟩ = some (.int .i64 s.2.2.2) := by
  have hx := ((((h.other (p := ⟨g, q * 4, none⟩) hne a).other (p := ⟨g, q * 4 + 1, none⟩) hne b).other (p := ⟨g, q * 4 + 2, none⟩) hne e).other (p := ⟨g, q * 4 + 3, none⟩) hne f).drew.all4
  exact ⟨hx.1, hx.2.1, hx.2.2.1, hx.2.2.2⟩
theorem meets_len8 (L y : List I3) : (meets L y).length ≤ 8 := by
  unfold meets
  split
  · have : ∀ l : List I3, (l.flatMap (mt1 L)).length ≤ l.length := by
      intro l
      induction l with
      | nil => simp
      | cons a l ih => have := mt1_len L a; simp only [List.flatMap_cons, List.length_append, List.length_cons]; omega
    have := this (y.take 8)
    rw [List.length_take] at this
    omega
  · simp
theorem whenV_form (o : Option I2) : ∃ a b c : Int, whenV o = .tuple #[.agg #[.int .i64 a, .int .i64 b], .int .i64 c] := by
  cases o with
  | none => exact ⟨_, _, _, rfl⟩
  | some s => exact ⟨_, _, _, rfl⟩
theorem f15v {c n v : Int} (h : pk c n = v) (w : World) (hc : -9223372036854775808 ≤ c) (hc' : c ≤ 9223372036854775807) (hn : 1 ≤ n) (hn' : n ≤ 9223372036854775807) :
    Calls Try.prog 15 #[.int .i64 c, .int .i64 n] w fun e w' => e = .returned (.int .i64 v) ∧ w = w' := h ▸ f15 c n w hc hc' hn hn'
def Cells9 (W : World) (g : Nat) (a b c : I3) : Prop := W.cell? ⟨g, 0, none⟩ = some (.int .i64 a.1) ∧ W.cell? ⟨g, 1, none⟩ = some (.int .i64 a.2.1) ∧ W.cell? ⟨g, 2, none⟩ = some (.int .i64 a.2.2) ∧
  W.cell? ⟨g, 3, none⟩ = some (.int .i64 b.1) ∧ W.cell? ⟨g, 4, none⟩ = some (.int .i64 b.2.1) ∧ W.cell? ⟨g, 5, none⟩ = some (.int .i64 b.2.2) ∧
  W.cell? ⟨g, 6, none⟩ = some (.int .i64 c.1) ∧ W.cell? ⟨g, 7, none⟩ = some (.int .i64 c.2.1) ∧ W.cell? ⟨g, 8, none⟩ = some (.int .i64 c.2.2)
theorem cells9 {W : World} {g : Nat} {a b c : I3} (h : SlR W W.heap.size 3 (some ⟨g, 0, none⟩) 3 ([a, b, c].flatMap c3)) : Cells9 W g a b c := by
  obtain ⟨b', off, e, _, hc⟩ := h.2 (by omega)
  cases e
  exact ⟨hc 0 _ rfl, hc 1 _ rfl, hc 2 _ rfl, hc 3 _ rfl, hc 4 _ rfl, hc 5 _ rfl, hc 6 _ rfl, hc 7 _ rfl, hc 8 _ rfl⟩
theorem cells9b {w W : World} {g : Nat} {a b c : I3} (h : Cells9 w g a b c) (hg : g < w.heap.size) (hb : Below w.heap.size w W) : W.cell? ⟨g, 0, none⟩ = some (.int .i64 a.1) ∧ W.cell? ⟨g, 1, none⟩ = some (.int .i64 a.2.1) ∧ W.cell? ⟨g, 2, none⟩ = some (.int .i64 a.2.2) ∧
    W.cell? ⟨g, 3, none⟩ = some (.int .i64 b.1) ∧ W.cell? ⟨g, 4, none⟩ = some (.int .i64 b.2.1) ∧ W.cell? ⟨g, 5, none⟩ = some (.int .i64 b.2.2) ∧
    W.cell? ⟨g, 6, none⟩ = some (.int .i64 c.1) ∧ W.cell? ⟨g, 7, none⟩ = some (.int .i64 c.2.1) ∧ W.cell? ⟨g, 8, none⟩ = some (.int .i64 c.2.2) ∧ Below w.heap.size w W := by
  obtain ⟨h0, h1, h2, h3, h4, h5, h6, h7, h8⟩ := h
  exact ⟨(hb.cell (p := ⟨g, 0, none⟩) hg).trans h0, (hb.cell (p := ⟨g, 1, none⟩) hg).trans h1, (hb.cell (p := ⟨g, 2, none⟩) hg).trans h2, (hb.cell (p := ⟨g, 3, none⟩) hg).trans h3, (hb.cell (p := ⟨g, 4, none⟩) hg).trans h4,
    (hb.cell (p := ⟨g, 5, none⟩) hg).trans h5, (hb.cell (p := ⟨g, 6, none⟩) hg).trans h6, (hb.cell (p := ⟨g, 7, none⟩) hg).trans h7, (hb.cell (p := ⟨g, 8, none⟩) hg).trans h8, hb⟩
/-- the code behind region 11 -/
def findC (p : Code → Bool) : Code → Option Code
  | .seq a b => if p (.seq a b) then some (.seq a b) else match findC p a with
    | some c => some c
    | none => findC p b
  | .block _ c => findC p c
  | .scope c => findC p c
  | _ => none
def isRest : Code → Bool
  | .seq (.seq (.region 12 _ _) _) _ => true
  | _ => false
noncomputable def f4rest : Code := ((Try.f4.body.bind (findC isRest)).getD .skip)
set_option linter.unusedSimpArgs false in
set_option linter.unusedVariables false in
set_option maxRecDepth 1000000 in
set_option maxHeartbeats 64000000 in
theorem f4_rest (w w8 : World) (A' B' A4 A6 : Option Addr) (L L2 : List I3) (l l2 : List I4) (cv dv c4' c6' g9 c9 : Nat) (person clock : Int) (t0 t1 t2 : I3) (u0 u1 u2 u3 u4 u5 u6 u7 u12 u13 u15 u16 u17 u46 u47 u48 u49 u50 u51 u52 u53 u54 u55 u56 u57 u58 u59 u60 u61 u62 u63 u64 u65 u66 u67 u68 u69 u70 u71 u72 u73 u74 u75 u76 u77 u78 u79 u80 u81 u82 u83 u84 u85 u86 u87 u88 u89 u90 u91 u92 u93 u94 u95 u96 u97 u98 u99 u100 u101 u102 u103 u104 u105 u106 u107 u108 u109 u110 u111 u112 u113 u114 u115 u116 u117 u118 u119 u120 u121 u122 u123 u124 u125 u126 u127 u128 u129 u130 u131 u132 u133 u134 u135 u136 u137 u138 u139 u140 u141 u142 u143 u144 u145 u146 u147 u148 u152 u153 u154 u155 u156 u157 u158 u159 u160 u161 u162 u163 u164 u165 u166 u167 u168 u169 u170 u171 u172 u173 u174 u175 u176 u177 u178 u179 u180 u181 u182 u183 u184 u185 u186 u187 u188 u189 u190 u191 u192 u193 u194 u195 u196 u197 u198 u199 u200 u201 u202 u203 u204 u205 u206 u207 u208 u209 u210 u211 u212 u213 u214 u215 u216 u217 u218 u219 u220 u221 u222 u223 u224 u225 : Value)
    (hle : L.length ≤ 6) (hl8 : l.length ≤ 8) (hcv1 : L.length ≤ cv) (hcv3 : cv ≤ 9223372036854775807) (hdv1 : l.length ≤ dv) (hdv3 : dv ≤ 9223372036854775807) (hL2 : L2.length = L.length) (hl2 : l2.length = l.length)
    (hc41 : L.length ≤ c4') (hc43 : c4' ≤ 9223372036854775807) (hc61 : l.length ≤ c6') (hc63 : c6' ≤ 9223372036854775807) (hp1 : -9223372036854775808 ≤ person) (hp2 : person ≤ 9223372036854775807) (hcl1 : -9223372036854775808 ≤ clock) (hcl2 : clock ≤ 9223372036854775807)
    (hL8 : SlR w8 w8.heap.size 3 A' L.length (L.flatMap c3)) (hM8 : SlR w8 w8.heap.size 4 B' l.length (l.flatMap c4)) (hX8 : SlR w8 w8.heap.size 3 A4 L.length (L2.flatMap c3)) (hY8 : SlR w8 w8.heap.size 4 A6 l.length (l2.flatMap c4))
    (hcT : Cells9 w8 g9 t0 t1 t2) (hg9 : g9 < w8.heap.size) (hc91 : 3 ≤ c9) (hc92 : c9 ≤ 9223372036854775807) (hb18 : Below w.heap.size w w8) :
    Code.wp Try.prog f4rest (bodyPost Try.prog Try.f4 fun e w' => e = .returned (.bool true) ∧ Below w.heap.size w w') ⟨#[u0, u1, u2, u3, u4, u5, u6, u7, .int .i64 person, .int .i64 clock, undef, undef, u12, u13, undef, u15, u16, u17, undef, undef, .bool false, .slice A' L.length cv, .slice B' l.length dv, .slice A4 L.length c4', .slice A6 l.length c6', .slice (some ⟨g9, 0, none⟩) 3 c9, undef, undef, undef, undef, undef, undef, undef, undef, undef, undef, undef, undef, undef, undef, undef, undef, undef, undef, undef, undef, u46, u47, u48, u49, u50, u51, u52, u53, u54, u55, u56, u57, u58, u59, u60, u61, u62, u63, u64, u65, u66, u67, u68, u69, u70, u71, u72, u73, u74, u75, u76, u77, u78, u79, u80, u81, u82, u83, u84, u85, u86, u87, u88, u89, u90, u91, u92, u93, u94, u95, u96, u97, u98, u99, u100, u101, u102, u103, u104, u105, u106, u107, u108, u109, u110, u111, u112, u113, u114, u115, u116, u117, u118, u119, u120, u121, u122, u123, u124, u125, u126, u127, u128, u129, u130, u131, u132, u133, u134, u135, u136, u137, u138, u139, u140, u141, u142, u143, u144, u145, u146, u147, u148, undef, undef, undef, u152, u153, u154, u155, u156, u157, u158, u159, u160, u161, u162, u163, u164, u165, u166, u167, u168, u169, u170, u171, u172, u173, u174, u175, u176, u177, u178, u179, u180, u181, u182, u183, u184, u185, u186, u187, u188, u189, u190, u191, u192, u193, u194, u195, u196, u197, u198, u199, u200, u201, u202, u203, u204, u205, u206, u207, u208, u209, u210, u211, u212, u213, u214, u215, u216, u217, u218, u219, u220, u221, u222, u223, u224, u225], []⟩ w8 := by
  conv => arg 2; whnf
  have key : ∀ j, j < 3 → ∃ (Az : Option Addr) (cz : Nat) (S : List I3) (Am : Option Addr) (cm : Nat) (m : List I4), S.length ≤ cz ∧ cz ≤ 9223372036854775807 ∧ m.length ≤ cm ∧ cm ≤ 9223372036854775807 ∧ S.length = L.length ∧ m.length = l.length ∧
      SlR w8 w8.heap.size 3 Az S.length (S.flatMap c3) ∧ SlR w8 w8.heap.size 4 Am m.length (m.flatMap c4) ∧
      [Value.slice A' L.length cv, .slice A4 L.length c4', .slice A' L.length cv][j]? = some (.slice Az S.length cz) ∧ [Value.slice B' l.length dv, .slice B' l.length dv, .slice A6 l.length c6'][j]? = some (.slice Am m.length cm) := by
    intro j hj
    have h2 : j = 0 ∨ j = 1 ∨ j = 2 := by omega
    rcases h2 with rfl | rfl | rfl
    · exact ⟨A', cv, L, B', dv, l, hcv1, hcv3, hdv1, hdv3, rfl, rfl, hL8, hM8, rfl, rfl⟩
    · exact ⟨A4, c4', L2, B', dv, l, by omega, hc43, hdv1, hdv3, hL2, rfl, by rw [hL2]; exact hX8, hM8, by rw [hL2]; rfl, rfl⟩
    · exact ⟨A', cv, L, A6, c6', l2, hcv1, hcv3, by omega, hc63, rfl, hl2, hL8, by rw [hl2]; exact hY8, rfl, by rw [hl2]; rfl⟩
  have HK := hide key
  have HCT := hide hcT
  clear hcT
  clear key hL8 hM8 hX8 hY8
  go_wp2_with fail
  go_loopw [26] (fun i wr => ∃ j : Nat, j ≤ 3 ∧ i = .int .i64 j ∧ Below w8.heap.size w8 wr) (fun i _ => 3 - (intOf i).toNat)
  case atStart => exact ⟨0, by omega, rfl, Below.refl _ _⟩
  case round =>
    obtain ⟨j, hj, rfl, hbr⟩ := hrel
    by_cases hlt : j < 3
    · have hji : (j : Int) < 3 := by omega
      have hj0 : (0 : Int) ≤ (j : Int) := by omega
      obtain ⟨Az, cz, S, Am, cm, m, hS1, hS2, hm1, hm2, hSL, hml, hS, hm, hka, hkb⟩ := HK.out j hlt
      have hm8 : m.length ≤ 8 := by omega
      have hS40 : S.length ≤ 100 := by omega
      clear hSL hml
      have hx1 : (wr.alloc (.cells #[.slice A' L.length cv, .slice A4 L.length c4', .slice A' L.length cv] 44)).cell? ⟨wr.heap.size, j, none⟩ = some (.slice Az S.length cz) := by rw [(Blk.new wr 44 [.slice A' L.length cv, .slice A4 L.length c4', .slice A' L.length cv]).cell]; exact hka
      have hx2 : ((wr.alloc (.cells #[.slice A' L.length cv, .slice A4 L.length c4', .slice A' L.length cv] 44)).alloc (.cells #[.slice B' l.length dv, .slice B' l.length dv, .slice A6 l.length c6'] 46)).cell? ⟨wr.heap.size + 1, j, none⟩ = some (.slice Am m.length cm) := by rw [(blk_nw wr _ 46 [.slice B' l.length dv, .slice B' l.length dv, .slice A6 l.length c6']).cell]; exact hkb
      have hb9 := balloc (balloc hbr (.cells #[.slice A' L.length cv, .slice A4 L.length c4', .slice A' L.length cv] 44)) (.cells #[.slice B' l.length dv, .slice B' l.length dv, .slice A6 l.length c6'] 46)
      clear hka hkb
      go_wp2_with fail
      generalize ((wr.alloc (.cells #[.slice A' L.length cv, .slice A4 L.length c4', .slice A' L.length cv] 44)).alloc (.cells #[.slice B' l.length dv, .slice B' l.length dv, .slice A6 l.length c6'] 46)) = w9 at *
      clear hx1 hx2
      have hS9 := hS.to hb9
      have hm9 := hm.to hb9
      go_wp2_with fail
      refine (f24 Az Am S m cz cm _ hS1 hS2 hm1 hm2 hS9 hm9).mono ?_
      intro e w10 hpost
      obtain ⟨out, kk, E, htd, hb10, Ao, co, rfl, ho1, ho2, ho3⟩ := form_all hpost
      have hb90 := bthen hb9 hb10
      have hS10 := hS9.to hb10
      have hm10 := hm9.to hb10
      clear hpost hS9 hm9
      go_wp2_with fail
      refine (f25 Az Am S m cz cm _ hS1 hS2 hm1 (by omega) (by omega) hS10 hm10).mono ?_
      intro e w11 hpost
      obtain ⟨out', kk', E', htd', hb11, Ao', co', rfl, ho1', ho2', ho3'⟩ := form_ref hpost
      obtain ⟨rfl, rfl, rfl⟩ := htd.uniq htd'
      have hb91 := bthen hb90 hb11
      have hS11 := hS10.to hb11
      have hm11 := hm10.to hb11
      have ho11 := ho3.to hb11
      have HTD := hide htd
      clear hpost hS10 hm10 htd htd' ho3 hb90
      have n1 : (E != E) = false := by simp
      have n2 : (kk != kk) = false := by simp
      have HP := hide (And.intro hS11 (And.intro hm11 (And.intro ho11 ho3')))
      clear ho3' ho11
      go_wp2_with fail
      obtain ⟨q1, q2, q3, q4⟩ := HP.out
      refine (f26 Ao Ao' out out co co' _ ho1 (by simpa [maxLen] using ho2) ho1' q3 q4).mono ?_
      rintro e w12 ⟨rfl, hb12⟩
      have hb92 := bthen hb91 hb12
      have q1 := q1.to hb12
      have q2 := q2.to hb12
      have dq : decide (out = out) = true := by simp
      rw [dq]
      clear q3 q4 dq hb91 hS11 hm11
      go_wp2_with fail
      refine (f27 Az Am S m cz cm _ hS1 hS2 hm1 hm2 q1 q2).mono ?_
      rintro e w13 ⟨rfl, hb13'⟩
      have hb93 := bthen hb92 hb13'
      have q1 := q1.to hb13'
      have q2 := q2.to hb13'
      clear hb92
      go_wp2_with fail
      refine (f28 Az Am S m cz cm _ hS1 hS2 q1 q2 (by omega)).mono ?_
      rintro e w14 ⟨rfl, hb14⟩
      have hb94 := bthen hb93 hb14
      have q1 := q1.to hb14
      have q2 := q2.to hb14
      clear hb93
      have HQ := hide (And.intro q1 q2)
      clear q1 q2
      generalize proper S m = bb at *
      have nb : (bb != bb) = false := by simp
      go_wp2_with fail
      clear nb n1 n2
      refine (f15 person 7 _ hp1 hp2 (by omega) (by omega)).mono ?_
      rintro e w15 ⟨rfl, rfl⟩
      go_wp2_with fail
      refine (f15 clock 1000 _ hcl1 hcl2 (by omega) (by omega)).mono ?_
      rintro e w15 ⟨rfl, rfl⟩
      have hk1 := pk_range person 7 (by omega)
      have hk2 := pk_range clock 1000 (by omega)
      go_wp2_with fail
      have gB := Blk.new w14 54 [.int .i64 person, .int .i64 clock, .int .i64 (pk person 7), .int .i64 (pk clock 1000)]
      have hb95 := balloc hb94 (.cells #[.int .i64 person, .int .i64 clock, .int .i64 (pk person 7), .int .i64 (pk clock 1000)] 54)
      have hq14 := HQ.out
      have q1 := hq14.1.to (balloc (Below.refl _ _) (.cells #[.int .i64 person, .int .i64 clock, .int .i64 (pk person 7), .int .i64 (pk clock 1000)] 54))
      have q2 := hq14.2.to (balloc (Below.refl _ _) (.cells #[.int .i64 person, .int .i64 clock, .int .i64 (pk person 7), .int .i64 (pk clock 1000)] 54))
      have key2 : ∀ q, q < 2 → ∃ p t : Int, wf64 t ∧ [Value.int .i64 person, .int .i64 clock, .int .i64 (pk person 7), .int .i64 (pk clock 1000)][q * 2]? = some (.int .i64 p) ∧ [Value.int .i64 person, .int .i64 clock, .int .i64 (pk person 7), .int .i64 (pk clock 1000)][q * 2 + 1]? = some (.int .i64 t) := by
        intro q hq
        have h2 : q = 0 ∨ q = 1 := by omega
        rcases h2 with rfl | rfl
        · exact ⟨person, clock, ⟨hcl1, hcl2⟩, rfl, rfl⟩
        · exact ⟨_, _, ⟨by omega, by omega⟩, rfl, rfl⟩
      have HK2 := hide key2
      clear key2 hq14 hb94 HQ hk1 hk2
      generalize hw15 : w14.alloc (.cells #[.int .i64 person, .int .i64 clock, .int .i64 (pk person 7), .int .i64 (pk clock 1000)] 54) = w15 at *
      have HW15 := hide hw15
      clear hw15
      have hgl := gB.lt
      go_loopw [151] (fun i wq => ∃ q : Nat, q ≤ 2 ∧ i = .int .i64 q ∧ Below w15.heap.size w15 wq) (fun i _ => 2 - (intOf i).toNat)
      case atStart => exact ⟨0, by omega, rfl, Below.refl _ _⟩
      case round =>
        obtain ⟨q, hq2, rfl, hbq⟩ := hrel
        by_cases hltq : q < 2
        · obtain ⟨p, t, ht, hp0, ht0⟩ := HK2.out q hltq
          have hc0 : wr.cell? ⟨w14.heap.size, q * 2, none⟩ = some (.int .i64 p) := by rw [(gB.below hbq hgl).cell]; exact hp0
          have hc1 : wr.cell? ⟨w14.heap.size, q * 2 + 1, none⟩ = some (.int .i64 t) := by rw [(gB.below hbq hgl).cell]; exact ht0
          have hqi : (q : Int) < 2 := by omega
          have hqi0 : (0 : Int) ≤ (q : Int) := by omega
          obtain ⟨f1, f2, f3, hwv⟩ := whenV_form (whenS S p t)
          have hA := balloc (Below.refl wr.heap.size wr) (.cells #[.int .i64 p, .int .i64 t] 54)
          have gP := Blk.new wr 54 [.int .i64 p, .int .i64 t]
          have qa := (q1.to hbq).to hA
          have hk29 := f29 Az S cz p t (wr.alloc (.cells #[.int .i64 p, .int .i64 t] 54)) hS1 hS2 qa
          rw [hwv] at hk29
          clear hp0 ht0
          go_wp2_with fail
          refine hk29.mono ?_
          clear hk29
          rintro e w16 ⟨rfl, hb16⟩
          have hA2 := balloc (bthen hA hb16) (.cells #[.int .i64 f1, .int .i64 f2] 56)
          have gP2 := (gP.below hb16 gP.lt).alloc (.cells #[.int .i64 f1, .int .i64 f2] 56)
          have gR := Blk.new w16 56 [.int .i64 f1, .int .i64 f2]
          obtain ⟨hp0, hp1, _, _⟩ := gP2.all2
          have qb := ((qa.to hb16).to (balloc (Below.refl w16.heap.size w16) (.cells #[.int .i64 f1, .int .i64 f2] 56)))
          have hwl : wr.heap.size < w16.heap.size := by have := (gP.below hb16 gP.lt).lt; exact this
          have hk30 := f30 Az S cz p t (w16.alloc (.cells #[.int .i64 f1, .int .i64 f2] 56)) hS1 hS2 ht qb
          rw [hwv] at hk30
          have HWV := hide hwv
          clear hwv hA hc0 hc1 qa gP
          go_wp2_with fail
          refine hk30.mono ?_
          clear hk30
          rintro e w17 ⟨rfl, hb17⟩
          obtain ⟨hr0, hr1, _, _⟩ := (gR.below hb17 gR.lt).all2
          have hwl2 : w16.heap.size < w17.heap.size := (gR.below hb17 gR.lt).lt
          have hA3 := balloc (bthen hA2 hb17) (.cells #[.int .i64 f1, .int .i64 f2] 56)
          have hneq := neq56
          have n1 : (f3 != f3) = false := by simp
          clear hp0 hp1 qb gR gP2 hA2
          go_wp2_with fail
          go_roundw
          case rel => exact ⟨q + 1, by omega, by go_num, bthen hbq hA3⟩
          case measure => simp [intOf]; omega
        · have hltq' : ¬ (q : Int) < 2 := by omega
          have hbw := bthen hb95 hbq
          have qa := q1.to hbq
          have qb := q2.to hbq
          clear hb95 q1 q2 gB HK2
          obtain ⟨w18, hw18⟩ : ∃ w18, w18 = wr := ⟨_, rfl⟩
          subst hw18
          go_wp2_with fail
          go_loopw [41] (fun i wq => (i = .int .i64 0 ∨ i = .int .i64 1 ∨ i = .int .i64 2 ∨ i = .int .i64 3) ∧ Below w18.heap.size w18 wq) (fun i _ => 3 - (intOf i).toNat)
          case atStart => exact ⟨.inl rfl, Below.refl _ _⟩
          case round =>
            obtain ⟨hkc, hbk⟩ := hrel
            have hb8k := bthen hbw hbk
            have hS18 := qa.to hbk
            have hm18 := qb.to hbk
            rcases hkc with rfl | rfl | rfl | rfl
            · have hb8r := hb8k
              have hwr : IntKind.i64.wrap 1 = 1 := by decide
              have hwt : Int.tmod 1 3 = 1 := by decide
              go_wp2_with fail
              refine wp_region_held_drew (S := fun W => W.cell? ⟨g9, 0, none⟩ = some (.int .i64 t0.1) ∧ W.cell? ⟨g9, 1, none⟩ = some (.int .i64 t0.2.1) ∧ W.cell? ⟨g9, 2, none⟩ = some (.int .i64 t0.2.2) ∧ W.cell? ⟨g9, 3, none⟩ = some (.int .i64 t1.1) ∧ W.cell? ⟨g9, 4, none⟩ = some (.int .i64 t1.2.1) ∧ W.cell? ⟨g9, 5, none⟩ = some (.int .i64 t1.2.2) ∧ W.cell? ⟨g9, 6, none⟩ = some (.int .i64 t2.1) ∧ W.cell? ⟨g9, 7, none⟩ = some (.int .i64 t2.2.1) ∧ W.cell? ⟨g9, 8, none⟩ = some (.int .i64 t2.2.2) ∧ Below w8.heap.size w8 W) (by kernel_rfl) (cells9b HCT.out hg9 (bdrew hb8r)) (fun hHeld => ?_)
              refine wpAnyH_take (i := 0) (v := ?_) rfl (by kernel_rfl) (by kernel_rfl) (by kernel_rfl) (fun _ _ _ h => h) (Or.inl ⟨by rfl, ?hy1⟩) (by assumption) ?rs1
              case hy1 => (intro w hSw; (try dsimp only at hSw); go_simp; try (with_reducible rfl))
              (try simp only [Act.put, List.setIfInBounds_toArray, List.set_cons_zero, List.set_cons_succ, List.getElem_toArray, List.getElem_cons_zero, List.getElem_cons_succ])
              refine wpAnyH_take (i := 1) (v := ?_) rfl (by kernel_rfl) (by kernel_rfl) (by kernel_rfl) (fun _ _ _ h => h) (Or.inl ⟨by rfl, ?hy2⟩) (by assumption) ?rs2
              case hy2 => (intro w hSw; (try dsimp only at hSw); go_simp; try (with_reducible rfl))
              (try simp only [Act.put, List.setIfInBounds_toArray, List.set_cons_zero, List.set_cons_succ, List.getElem_toArray, List.getElem_cons_zero, List.getElem_cons_succ])
              refine wpAnyH_take (i := 2) (v := ?_) rfl (by kernel_rfl) (by kernel_rfl) (by kernel_rfl) (fun _ _ _ h => h) (Or.inl ⟨by rfl, ?hy3⟩) (by assumption) ?rs3
              case hy3 => (intro w hSw; (try dsimp only at hSw); go_simp; try (with_reducible rfl))
              (try simp only [Act.put, List.setIfInBounds_toArray, List.set_cons_zero, List.set_cons_succ, List.getElem_toArray, List.getElem_cons_zero, List.getElem_cons_succ])
              refine wpAnyH_take (i := 3) (v := ?_) rfl (by kernel_rfl) (by kernel_rfl) (by kernel_rfl) (fun _ _ _ h => h) (Or.inl ⟨by rfl, ?hy4⟩) (by assumption) ?rs4
              case hy4 => (intro w hSw; (try dsimp only at hSw); go_simp; try (with_reducible rfl))
              (try simp only [Act.put, List.setIfInBounds_toArray, List.set_cons_zero, List.set_cons_succ, List.getElem_toArray, List.getElem_cons_zero, List.getElem_cons_succ])
              refine wpAnyH_take (i := 4) (v := ?_) rfl (by kernel_rfl) (by kernel_rfl) (by kernel_rfl) (fun _ _ _ h => h) (Or.inl ⟨by rfl, ?hy5⟩) (by assumption) ?rs5
              case hy5 => (intro w hSw; (try dsimp only at hSw); go_simp; try (with_reducible rfl))
              (try simp only [Act.put, List.setIfInBounds_toArray, List.set_cons_zero, List.set_cons_succ, List.getElem_toArray, List.getElem_cons_zero, List.getElem_cons_succ])
              refine wpAnyH_take (i := 5) (v := ?_) rfl (by kernel_rfl) (by kernel_rfl) (by kernel_rfl) (fun _ _ _ h => h) (Or.inl ⟨by rfl, ?hy6⟩) (by assumption) ?rs6
              case hy6 => (intro w hSw; (try dsimp only at hSw); go_simp; try (with_reducible rfl))
              (try simp only [Act.put, List.setIfInBounds_toArray, List.set_cons_zero, List.set_cons_succ, List.getElem_toArray, List.getElem_cons_zero, List.getElem_cons_succ])
              refine wpAnyH_take (i := 6) (v := ?_) rfl (by kernel_rfl) (by kernel_rfl) (by kernel_rfl) (fun _ _ _ h => h) (Or.inl ⟨by rfl, ?hy7⟩) (by assumption) ?rs7
              case hy7 => (intro w hSw; (try dsimp only at hSw); go_simp; try (with_reducible rfl))
              (try simp only [Act.put, List.setIfInBounds_toArray, List.set_cons_zero, List.set_cons_succ, List.getElem_toArray, List.getElem_cons_zero, List.getElem_cons_succ])
              refine wpAnyH_take (i := 7) (v := ?_) rfl (by kernel_rfl) (by kernel_rfl) (by kernel_rfl) (fun _ _ _ h => h) (Or.inl ⟨by rfl, ?hy8⟩) (by assumption) ?rs8
              case hy8 => (intro w hSw; (try dsimp only at hSw); go_simp; try (with_reducible rfl))
              (try simp only [Act.put, List.setIfInBounds_toArray, List.set_cons_zero, List.set_cons_succ, List.getElem_toArray, List.getElem_cons_zero, List.getElem_cons_succ])
              refine wpAnyH_take (i := 8) (v := ?_) rfl (by kernel_rfl) (by kernel_rfl) (by kernel_rfl) (fun _ _ _ h => h) (Or.inl ⟨by rfl, ?hy9⟩) (by assumption) ?rs9
              case hy9 => (intro w hSw; (try dsimp only at hSw); go_simp; try (with_reducible rfl))
              (try simp only [Act.put, List.setIfInBounds_toArray, List.set_cons_zero, List.set_cons_succ, List.getElem_toArray, List.getElem_cons_zero, List.getElem_cons_succ])
              refine wpAnyH_take (i := 9) (v := ?_) rfl (by kernel_rfl) (by kernel_rfl) (by kernel_rfl) (fun _ _ _ h => h) (Or.inl ⟨by rfl, ?hy10⟩) (by assumption) ?rs10
              case hy10 => (intro w hSw; (try dsimp only at hSw); go_simp; try (with_reducible rfl))
              (try simp only [Act.put, List.setIfInBounds_toArray, List.set_cons_zero, List.set_cons_succ, List.getElem_toArray, List.getElem_cons_zero, List.getElem_cons_succ])
              refine wpAnyH_take (i := 10) (v := ?_) rfl (by kernel_rfl) (by kernel_rfl) (by kernel_rfl) (fun _ _ _ h => h) (Or.inl ⟨by rfl, ?hy11⟩) (by assumption) ?rs11
              case hy11 => (intro w hSw; (try dsimp only at hSw); go_simp; try (with_reducible rfl))
              (try simp only [Act.put, List.setIfInBounds_toArray, List.set_cons_zero, List.set_cons_succ, List.getElem_toArray, List.getElem_cons_zero, List.getElem_cons_succ])
              refine wpAnyH_take (i := 11) (v := ?_) rfl (by kernel_rfl) (by kernel_rfl) (by kernel_rfl) (fun _ _ _ h => h) (Or.inl ⟨by rfl, ?hy12⟩) (by assumption) ?rs12
              case hy12 => (intro w hSw; (try dsimp only at hSw); go_simp; try (with_reducible rfl))
              (try simp only [Act.put, List.setIfInBounds_toArray, List.set_cons_zero, List.set_cons_succ, List.getElem_toArray, List.getElem_cons_zero, List.getElem_cons_succ])
              refine wpAnyH_ready (rs := [12]) (by kernel_rfl) (by simp) ?_
              refine AllReadyH.cons rfl (fun K hK => ?_) ?_
              · go_simp
                refine (f31 Az Am S m t0 t1 cz cm _ hS1 hS2 hm1 hm2 (hS18.to (bdrew (Below.refl _ _))) (hm18.to (bdrew (Below.refl _ _)))).mono ?_
                intro e w19 hpost
                obtain ⟨r, E, hof, rfl, hb19⟩ := of_all hpost
                have hb20 := bthen (bdrew hb8r) hb19
                refine hK.out _ _ (by exact (cells9b HCT.out hg9 hb20)) (fun hHeld => ?_)
                clear hK K
                (try simp only [Act.put, List.setIfInBounds_toArray, List.set_cons_zero, List.set_cons_succ, List.getElem_toArray, List.getElem_cons_zero, List.getElem_cons_succ])
                refine wpAnyH_take (i := 13) (v := ?_) rfl (by kernel_rfl) (by kernel_rfl) (by kernel_rfl) (fun _ _ _ h => h) (Or.inl ⟨by rfl, ?hy13⟩) (by assumption) ?rs13
                case hy13 => (intro w hSw; (try dsimp only at hSw); go_simp; try (with_reducible rfl))
                (try simp only [Act.put, List.setIfInBounds_toArray, List.set_cons_zero, List.set_cons_succ, List.getElem_toArray, List.getElem_cons_zero, List.getElem_cons_succ])
                refine wpAnyH_take (i := 14) (v := ?_) rfl (by kernel_rfl) (by kernel_rfl) (by kernel_rfl) (fun _ _ _ h => h) (Or.inl ⟨by rfl, ?hy14⟩) (by assumption) ?rs14
                case hy14 => (intro w hSw; (try dsimp only at hSw); go_simp; try (with_reducible rfl))
                (try simp only [Act.put, List.setIfInBounds_toArray, List.set_cons_zero, List.set_cons_succ, List.getElem_toArray, List.getElem_cons_zero, List.getElem_cons_succ])
                refine wpAnyH_take (i := 15) (v := ?_) rfl (by kernel_rfl) (by kernel_rfl) (by kernel_rfl) (fun _ _ _ h => h) (Or.inl ⟨by rfl, ?hy15⟩) (by assumption) ?rs15
                case hy15 => (intro w hSw; (try dsimp only at hSw); go_simp; try (with_reducible rfl))
                (try simp only [Act.put, List.setIfInBounds_toArray, List.set_cons_zero, List.set_cons_succ, List.getElem_toArray, List.getElem_cons_zero, List.getElem_cons_succ])
                refine wpAnyH_take (i := 16) (v := ?_) rfl (by kernel_rfl) (by kernel_rfl) (by kernel_rfl) (fun _ _ _ h => h) (Or.inl ⟨by rfl, ?hy16⟩) (by assumption) ?rs16
                case hy16 => (intro w hSw; (try dsimp only at hSw); go_simp; try (with_reducible rfl))
                (try simp only [Act.put, List.setIfInBounds_toArray, List.set_cons_zero, List.set_cons_succ, List.getElem_toArray, List.getElem_cons_zero, List.getElem_cons_succ])
                refine wpAnyH_take (i := 17) (v := ?_) rfl (by kernel_rfl) (by kernel_rfl) (by kernel_rfl) (fun _ _ _ h => h) (Or.inl ⟨by rfl, ?hy17⟩) (by assumption) ?rs17
                case hy17 => (intro w hSw; (try dsimp only at hSw); go_simp; try (with_reducible rfl))
                (try simp only [Act.put, List.setIfInBounds_toArray, List.set_cons_zero, List.set_cons_succ, List.getElem_toArray, List.getElem_cons_zero, List.getElem_cons_succ])
                refine wpAnyH_done (by kernel_rfl) ?_ _
                have hn1 : (r != r) = false := by simp
                have hn2 : (E != E) = false := by simp
                have HOF := hide hof
                clear hof hb8r
                go_wp2_with fail
                refine wp_region_held_drew (S := fun W => W.cell? ⟨g9, 0, none⟩ = some (.int .i64 t0.1) ∧ W.cell? ⟨g9, 1, none⟩ = some (.int .i64 t0.2.1) ∧ W.cell? ⟨g9, 2, none⟩ = some (.int .i64 t0.2.2) ∧ W.cell? ⟨g9, 3, none⟩ = some (.int .i64 t1.1) ∧ W.cell? ⟨g9, 4, none⟩ = some (.int .i64 t1.2.1) ∧ W.cell? ⟨g9, 5, none⟩ = some (.int .i64 t1.2.2) ∧ W.cell? ⟨g9, 6, none⟩ = some (.int .i64 t2.1) ∧ W.cell? ⟨g9, 7, none⟩ = some (.int .i64 t2.2.1) ∧ W.cell? ⟨g9, 8, none⟩ = some (.int .i64 t2.2.2) ∧ Below w8.heap.size w8 W) (by kernel_rfl) (cells9b HCT.out hg9 (bdrew hb20)) (fun hHeld => ?_)
                refine wpAnyH_take (i := 0) (v := ?_) rfl (by kernel_rfl) (by kernel_rfl) (by kernel_rfl) (fun _ _ _ h => h) (Or.inl ⟨by rfl, ?hy18⟩) (by assumption) ?rs18
                case hy18 => (intro w hSw; (try dsimp only at hSw); go_simp; try (with_reducible rfl))
                (try simp only [Act.put, List.setIfInBounds_toArray, List.set_cons_zero, List.set_cons_succ, List.getElem_toArray, List.getElem_cons_zero, List.getElem_cons_succ])
                refine wpAnyH_take (i := 1) (v := ?_) rfl (by kernel_rfl) (by kernel_rfl) (by kernel_rfl) (fun _ _ _ h => h) (Or.inl ⟨by rfl, ?hy19⟩) (by assumption) ?rs19
                case hy19 => (intro w hSw; (try dsimp only at hSw); go_simp; try (with_reducible rfl))
                (try simp only [Act.put, List.setIfInBounds_toArray, List.set_cons_zero, List.set_cons_succ, List.getElem_toArray, List.getElem_cons_zero, List.getElem_cons_succ])
                refine wpAnyH_take (i := 2) (v := ?_) rfl (by kernel_rfl) (by kernel_rfl) (by kernel_rfl) (fun _ _ _ h => h) (Or.inl ⟨by rfl, ?hy20⟩) (by assumption) ?rs20
                case hy20 => (intro w hSw; (try dsimp only at hSw); go_simp; try (with_reducible rfl))
                (try simp only [Act.put, List.setIfInBounds_toArray, List.set_cons_zero, List.set_cons_succ, List.getElem_toArray, List.getElem_cons_zero, List.getElem_cons_succ])
                refine wpAnyH_take (i := 3) (v := ?_) rfl (by kernel_rfl) (by kernel_rfl) (by kernel_rfl) (fun _ _ _ h => h) (Or.inl ⟨by rfl, ?hy21⟩) (by assumption) ?rs21
                case hy21 => (intro w hSw; (try dsimp only at hSw); go_simp; try (with_reducible rfl))
                (try simp only [Act.put, List.setIfInBounds_toArray, List.set_cons_zero, List.set_cons_succ, List.getElem_toArray, List.getElem_cons_zero, List.getElem_cons_succ])
                refine wpAnyH_take (i := 4) (v := ?_) rfl (by kernel_rfl) (by kernel_rfl) (by kernel_rfl) (fun _ _ _ h => h) (Or.inl ⟨by rfl, ?hy22⟩) (by assumption) ?rs22
                case hy22 => (intro w hSw; (try dsimp only at hSw); go_simp; try (with_reducible rfl))
                (try simp only [Act.put, List.setIfInBounds_toArray, List.set_cons_zero, List.set_cons_succ, List.getElem_toArray, List.getElem_cons_zero, List.getElem_cons_succ])
                refine wpAnyH_take (i := 5) (v := ?_) rfl (by kernel_rfl) (by kernel_rfl) (by kernel_rfl) (fun _ _ _ h => h) (Or.inl ⟨by rfl, ?hy23⟩) (by assumption) ?rs23
                case hy23 => (intro w hSw; (try dsimp only at hSw); go_simp; try (with_reducible rfl))
                (try simp only [Act.put, List.setIfInBounds_toArray, List.set_cons_zero, List.set_cons_succ, List.getElem_toArray, List.getElem_cons_zero, List.getElem_cons_succ])
                refine wpAnyH_take (i := 6) (v := ?_) rfl (by kernel_rfl) (by kernel_rfl) (by kernel_rfl) (fun _ _ _ h => h) (Or.inl ⟨by rfl, ?hy24⟩) (by assumption) ?rs24
                case hy24 => (intro w hSw; (try dsimp only at hSw); go_simp; try (with_reducible rfl))
                (try simp only [Act.put, List.setIfInBounds_toArray, List.set_cons_zero, List.set_cons_succ, List.getElem_toArray, List.getElem_cons_zero, List.getElem_cons_succ])
                refine wpAnyH_take (i := 7) (v := ?_) rfl (by kernel_rfl) (by kernel_rfl) (by kernel_rfl) (fun _ _ _ h => h) (Or.inl ⟨by rfl, ?hy25⟩) (by assumption) ?rs25
                case hy25 => (intro w hSw; (try dsimp only at hSw); go_simp; try (with_reducible rfl))
                (try simp only [Act.put, List.setIfInBounds_toArray, List.set_cons_zero, List.set_cons_succ, List.getElem_toArray, List.getElem_cons_zero, List.getElem_cons_succ])
                refine wpAnyH_take (i := 8) (v := ?_) rfl (by kernel_rfl) (by kernel_rfl) (by kernel_rfl) (fun _ _ _ h => h) (Or.inl ⟨by rfl, ?hy26⟩) (by assumption) ?rs26
                case hy26 => (intro w hSw; (try dsimp only at hSw); go_simp; try (with_reducible rfl))
                (try simp only [Act.put, List.setIfInBounds_toArray, List.set_cons_zero, List.set_cons_succ, List.getElem_toArray, List.getElem_cons_zero, List.getElem_cons_succ])
                refine wpAnyH_take (i := 9) (v := ?_) rfl (by kernel_rfl) (by kernel_rfl) (by kernel_rfl) (fun _ _ _ h => h) (Or.inl ⟨by rfl, ?hy27⟩) (by assumption) ?rs27
                case hy27 => (intro w hSw; (try dsimp only at hSw); go_simp; try (with_reducible rfl))
                (try simp only [Act.put, List.setIfInBounds_toArray, List.set_cons_zero, List.set_cons_succ, List.getElem_toArray, List.getElem_cons_zero, List.getElem_cons_succ])
                refine wpAnyH_take (i := 10) (v := ?_) rfl (by kernel_rfl) (by kernel_rfl) (by kernel_rfl) (fun _ _ _ h => h) (Or.inl ⟨by rfl, ?hy28⟩) (by assumption) ?rs28
                case hy28 => (intro w hSw; (try dsimp only at hSw); go_simp; try (with_reducible rfl))
                (try simp only [Act.put, List.setIfInBounds_toArray, List.set_cons_zero, List.set_cons_succ, List.getElem_toArray, List.getElem_cons_zero, List.getElem_cons_succ])
                refine wpAnyH_take (i := 11) (v := ?_) rfl (by kernel_rfl) (by kernel_rfl) (by kernel_rfl) (fun _ _ _ h => h) (Or.inl ⟨by rfl, ?hy29⟩) (by assumption) ?rs29
                case hy29 => (intro w hSw; (try dsimp only at hSw); go_simp; try (with_reducible rfl))
                (try simp only [Act.put, List.setIfInBounds_toArray, List.set_cons_zero, List.set_cons_succ, List.getElem_toArray, List.getElem_cons_zero, List.getElem_cons_succ])
                refine wpAnyH_ready (rs := [12]) (by kernel_rfl) (by simp) ?_
                refine AllReadyH.cons rfl (fun K hK => ?_) ?_
                · go_simp
                  refine (f32 Az Am S m t0 t1 cz cm _ hS1 hS2 hm1 hm8 hS40 (hS18.to (bthen (bdrew (Below.refl _ _)) (bthen hb19 (bdrew (Below.refl _ _))))) (hm18.to (bthen (bdrew (Below.refl _ _)) (bthen hb19 (bdrew (Below.refl _ _)))))).mono ?_
                  intro e w21 hpost
                  obtain ⟨rfl, hb21⟩ := of_ref HOF.out hpost
                  refine hK.out _ _ (by exact (cells9b HCT.out hg9 (bthen (bdrew hb20) hb21))) (fun hHeld => ?_)
                  clear hK K
                  (try simp only [Act.put, List.setIfInBounds_toArray, List.set_cons_zero, List.set_cons_succ, List.getElem_toArray, List.getElem_cons_zero, List.getElem_cons_succ])
                  refine wpAnyH_take (i := 13) (v := ?_) rfl (by kernel_rfl) (by kernel_rfl) (by kernel_rfl) (fun _ _ _ h => h) (Or.inl ⟨by rfl, ?hy30⟩) (by assumption) ?rs30
                  case hy30 => (intro w hSw; (try dsimp only at hSw); go_simp; try (with_reducible rfl))
                  (try simp only [Act.put, List.setIfInBounds_toArray, List.set_cons_zero, List.set_cons_succ, List.getElem_toArray, List.getElem_cons_zero, List.getElem_cons_succ])
                  refine wpAnyH_take (i := 14) (v := ?_) rfl (by kernel_rfl) (by kernel_rfl) (by kernel_rfl) (fun _ _ _ h => h) (Or.inl ⟨by rfl, ?hy31⟩) (by assumption) ?rs31
                  case hy31 => (intro w hSw; (try dsimp only at hSw); go_simp; try (with_reducible rfl))
                  (try simp only [Act.put, List.setIfInBounds_toArray, List.set_cons_zero, List.set_cons_succ, List.getElem_toArray, List.getElem_cons_zero, List.getElem_cons_succ])
                  refine wpAnyH_take (i := 15) (v := ?_) rfl (by kernel_rfl) (by kernel_rfl) (by kernel_rfl) (fun _ _ _ h => h) (Or.inl ⟨by rfl, ?hy32⟩) (by assumption) ?rs32
                  case hy32 => (intro w hSw; (try dsimp only at hSw); go_simp; try (with_reducible rfl))
                  (try simp only [Act.put, List.setIfInBounds_toArray, List.set_cons_zero, List.set_cons_succ, List.getElem_toArray, List.getElem_cons_zero, List.getElem_cons_succ])
                  refine wpAnyH_take (i := 16) (v := ?_) rfl (by kernel_rfl) (by kernel_rfl) (by kernel_rfl) (fun _ _ _ h => h) (Or.inl ⟨by rfl, ?hy33⟩) (by assumption) ?rs33
                  case hy33 => (intro w hSw; (try dsimp only at hSw); go_simp; try (with_reducible rfl))
                  (try simp only [Act.put, List.setIfInBounds_toArray, List.set_cons_zero, List.set_cons_succ, List.getElem_toArray, List.getElem_cons_zero, List.getElem_cons_succ])
                  refine wpAnyH_take (i := 17) (v := ?_) rfl (by kernel_rfl) (by kernel_rfl) (by kernel_rfl) (fun _ _ _ h => h) (Or.inl ⟨by rfl, ?hy34⟩) (by assumption) ?rs34
                  case hy34 => (intro w hSw; (try dsimp only at hSw); go_simp; try (with_reducible rfl))
                  (try simp only [Act.put, List.setIfInBounds_toArray, List.set_cons_zero, List.set_cons_succ, List.getElem_toArray, List.getElem_cons_zero, List.getElem_cons_succ])
                  refine wpAnyH_done (by kernel_rfl) ?_ _
                  go_wp2_with fail
                  go_roundw
                  case rel => exact ⟨.inr (.inl rfl), bthen hbk (bthen (bdrew (Below.refl _ _)) (bthen hb19 (bthen (bdrew (Below.refl _ _)) hb21)))⟩
                  case measure => simp [intOf]
                exact AllReadyH.nil
              exact AllReadyH.nil
            · have hb8r := hb8k
              have hwr : IntKind.i64.wrap 2 = 2 := by decide
              have hwt : Int.tmod 2 3 = 2 := by decide
              go_wp2_with fail
              refine wp_region_held_drew (S := fun W => W.cell? ⟨g9, 0, none⟩ = some (.int .i64 t0.1) ∧ W.cell? ⟨g9, 1, none⟩ = some (.int .i64 t0.2.1) ∧ W.cell? ⟨g9, 2, none⟩ = some (.int .i64 t0.2.2) ∧ W.cell? ⟨g9, 3, none⟩ = some (.int .i64 t1.1) ∧ W.cell? ⟨g9, 4, none⟩ = some (.int .i64 t1.2.1) ∧ W.cell? ⟨g9, 5, none⟩ = some (.int .i64 t1.2.2) ∧ W.cell? ⟨g9, 6, none⟩ = some (.int .i64 t2.1) ∧ W.cell? ⟨g9, 7, none⟩ = some (.int .i64 t2.2.1) ∧ W.cell? ⟨g9, 8, none⟩ = some (.int .i64 t2.2.2) ∧ Below w8.heap.size w8 W) (by kernel_rfl) (cells9b HCT.out hg9 (bdrew hb8r)) (fun hHeld => ?_)
              refine wpAnyH_take (i := 0) (v := ?_) rfl (by kernel_rfl) (by kernel_rfl) (by kernel_rfl) (fun _ _ _ h => h) (Or.inl ⟨by rfl, ?hy35⟩) (by assumption) ?rs35
              case hy35 => (intro w hSw; (try dsimp only at hSw); go_simp; try (with_reducible rfl))
              (try simp only [Act.put, List.setIfInBounds_toArray, List.set_cons_zero, List.set_cons_succ, List.getElem_toArray, List.getElem_cons_zero, List.getElem_cons_succ])
              refine wpAnyH_take (i := 1) (v := ?_) rfl (by kernel_rfl) (by kernel_rfl) (by kernel_rfl) (fun _ _ _ h => h) (Or.inl ⟨by rfl, ?hy36⟩) (by assumption) ?rs36
              case hy36 => (intro w hSw; (try dsimp only at hSw); go_simp; try (with_reducible rfl))
              (try simp only [Act.put, List.setIfInBounds_toArray, List.set_cons_zero, List.set_cons_succ, List.getElem_toArray, List.getElem_cons_zero, List.getElem_cons_succ])
              refine wpAnyH_take (i := 2) (v := ?_) rfl (by kernel_rfl) (by kernel_rfl) (by kernel_rfl) (fun _ _ _ h => h) (Or.inl ⟨by rfl, ?hy37⟩) (by assumption) ?rs37
              case hy37 => (intro w hSw; (try dsimp only at hSw); go_simp; try (with_reducible rfl))
              (try simp only [Act.put, List.setIfInBounds_toArray, List.set_cons_zero, List.set_cons_succ, List.getElem_toArray, List.getElem_cons_zero, List.getElem_cons_succ])
              refine wpAnyH_take (i := 3) (v := ?_) rfl (by kernel_rfl) (by kernel_rfl) (by kernel_rfl) (fun _ _ _ h => h) (Or.inl ⟨by rfl, ?hy38⟩) (by assumption) ?rs38
              case hy38 => (intro w hSw; (try dsimp only at hSw); go_simp; try (with_reducible rfl))
              (try simp only [Act.put, List.setIfInBounds_toArray, List.set_cons_zero, List.set_cons_succ, List.getElem_toArray, List.getElem_cons_zero, List.getElem_cons_succ])
              refine wpAnyH_take (i := 4) (v := ?_) rfl (by kernel_rfl) (by kernel_rfl) (by kernel_rfl) (fun _ _ _ h => h) (Or.inl ⟨by rfl, ?hy39⟩) (by assumption) ?rs39
              case hy39 => (intro w hSw; (try dsimp only at hSw); go_simp; try (with_reducible rfl))
              (try simp only [Act.put, List.setIfInBounds_toArray, List.set_cons_zero, List.set_cons_succ, List.getElem_toArray, List.getElem_cons_zero, List.getElem_cons_succ])
              refine wpAnyH_take (i := 5) (v := ?_) rfl (by kernel_rfl) (by kernel_rfl) (by kernel_rfl) (fun _ _ _ h => h) (Or.inl ⟨by rfl, ?hy40⟩) (by assumption) ?rs40
              case hy40 => (intro w hSw; (try dsimp only at hSw); go_simp; try (with_reducible rfl))
              (try simp only [Act.put, List.setIfInBounds_toArray, List.set_cons_zero, List.set_cons_succ, List.getElem_toArray, List.getElem_cons_zero, List.getElem_cons_succ])
              refine wpAnyH_take (i := 6) (v := ?_) rfl (by kernel_rfl) (by kernel_rfl) (by kernel_rfl) (fun _ _ _ h => h) (Or.inl ⟨by rfl, ?hy41⟩) (by assumption) ?rs41
              case hy41 => (intro w hSw; (try dsimp only at hSw); go_simp; try (with_reducible rfl))
              (try simp only [Act.put, List.setIfInBounds_toArray, List.set_cons_zero, List.set_cons_succ, List.getElem_toArray, List.getElem_cons_zero, List.getElem_cons_succ])
              refine wpAnyH_take (i := 7) (v := ?_) rfl (by kernel_rfl) (by kernel_rfl) (by kernel_rfl) (fun _ _ _ h => h) (Or.inl ⟨by rfl, ?hy42⟩) (by assumption) ?rs42
              case hy42 => (intro w hSw; (try dsimp only at hSw); go_simp; try (with_reducible rfl))
              (try simp only [Act.put, List.setIfInBounds_toArray, List.set_cons_zero, List.set_cons_succ, List.getElem_toArray, List.getElem_cons_zero, List.getElem_cons_succ])
              refine wpAnyH_take (i := 8) (v := ?_) rfl (by kernel_rfl) (by kernel_rfl) (by kernel_rfl) (fun _ _ _ h => h) (Or.inl ⟨by rfl, ?hy43⟩) (by assumption) ?rs43
              case hy43 => (intro w hSw; (try dsimp only at hSw); go_simp; try (with_reducible rfl))
              (try simp only [Act.put, List.setIfInBounds_toArray, List.set_cons_zero, List.set_cons_succ, List.getElem_toArray, List.getElem_cons_zero, List.getElem_cons_succ])
              refine wpAnyH_take (i := 9) (v := ?_) rfl (by kernel_rfl) (by kernel_rfl) (by kernel_rfl) (fun _ _ _ h => h) (Or.inl ⟨by rfl, ?hy44⟩) (by assumption) ?rs44
              case hy44 => (intro w hSw; (try dsimp only at hSw); go_simp; try (with_reducible rfl))
              (try simp only [Act.put, List.setIfInBounds_toArray, List.set_cons_zero, List.set_cons_succ, List.getElem_toArray, List.getElem_cons_zero, List.getElem_cons_succ])
              refine wpAnyH_take (i := 10) (v := ?_) rfl (by kernel_rfl) (by kernel_rfl) (by kernel_rfl) (fun _ _ _ h => h) (Or.inl ⟨by rfl, ?hy45⟩) (by assumption) ?rs45
              case hy45 => (intro w hSw; (try dsimp only at hSw); go_simp; try (with_reducible rfl))
              (try simp only [Act.put, List.setIfInBounds_toArray, List.set_cons_zero, List.set_cons_succ, List.getElem_toArray, List.getElem_cons_zero, List.getElem_cons_succ])
              refine wpAnyH_take (i := 11) (v := ?_) rfl (by kernel_rfl) (by kernel_rfl) (by kernel_rfl) (fun _ _ _ h => h) (Or.inl ⟨by rfl, ?hy46⟩) (by assumption) ?rs46
              case hy46 => (intro w hSw; (try dsimp only at hSw); go_simp; try (with_reducible rfl))
              (try simp only [Act.put, List.setIfInBounds_toArray, List.set_cons_zero, List.set_cons_succ, List.getElem_toArray, List.getElem_cons_zero, List.getElem_cons_succ])
              refine wpAnyH_ready (rs := [12]) (by kernel_rfl) (by simp) ?_
              refine AllReadyH.cons rfl (fun K hK => ?_) ?_
              · go_simp
                refine (f31 Az Am S m t1 t2 cz cm _ hS1 hS2 hm1 hm2 (hS18.to (bdrew (Below.refl _ _))) (hm18.to (bdrew (Below.refl _ _)))).mono ?_
                intro e w19 hpost
                obtain ⟨r, E, hof, rfl, hb19⟩ := of_all hpost
                have hb20 := bthen (bdrew hb8r) hb19
                refine hK.out _ _ (by exact (cells9b HCT.out hg9 hb20)) (fun hHeld => ?_)
                clear hK K
                (try simp only [Act.put, List.setIfInBounds_toArray, List.set_cons_zero, List.set_cons_succ, List.getElem_toArray, List.getElem_cons_zero, List.getElem_cons_succ])
                refine wpAnyH_take (i := 13) (v := ?_) rfl (by kernel_rfl) (by kernel_rfl) (by kernel_rfl) (fun _ _ _ h => h) (Or.inl ⟨by rfl, ?hy47⟩) (by assumption) ?rs47
                case hy47 => (intro w hSw; (try dsimp only at hSw); go_simp; try (with_reducible rfl))
                (try simp only [Act.put, List.setIfInBounds_toArray, List.set_cons_zero, List.set_cons_succ, List.getElem_toArray, List.getElem_cons_zero, List.getElem_cons_succ])
                refine wpAnyH_take (i := 14) (v := ?_) rfl (by kernel_rfl) (by kernel_rfl) (by kernel_rfl) (fun _ _ _ h => h) (Or.inl ⟨by rfl, ?hy48⟩) (by assumption) ?rs48
                case hy48 => (intro w hSw; (try dsimp only at hSw); go_simp; try (with_reducible rfl))
                (try simp only [Act.put, List.setIfInBounds_toArray, List.set_cons_zero, List.set_cons_succ, List.getElem_toArray, List.getElem_cons_zero, List.getElem_cons_succ])
                refine wpAnyH_take (i := 15) (v := ?_) rfl (by kernel_rfl) (by kernel_rfl) (by kernel_rfl) (fun _ _ _ h => h) (Or.inl ⟨by rfl, ?hy49⟩) (by assumption) ?rs49
                case hy49 => (intro w hSw; (try dsimp only at hSw); go_simp; try (with_reducible rfl))
                (try simp only [Act.put, List.setIfInBounds_toArray, List.set_cons_zero, List.set_cons_succ, List.getElem_toArray, List.getElem_cons_zero, List.getElem_cons_succ])
                refine wpAnyH_take (i := 16) (v := ?_) rfl (by kernel_rfl) (by kernel_rfl) (by kernel_rfl) (fun _ _ _ h => h) (Or.inl ⟨by rfl, ?hy50⟩) (by assumption) ?rs50
                case hy50 => (intro w hSw; (try dsimp only at hSw); go_simp; try (with_reducible rfl))
                (try simp only [Act.put, List.setIfInBounds_toArray, List.set_cons_zero, List.set_cons_succ, List.getElem_toArray, List.getElem_cons_zero, List.getElem_cons_succ])
                refine wpAnyH_take (i := 17) (v := ?_) rfl (by kernel_rfl) (by kernel_rfl) (by kernel_rfl) (fun _ _ _ h => h) (Or.inl ⟨by rfl, ?hy51⟩) (by assumption) ?rs51
                case hy51 => (intro w hSw; (try dsimp only at hSw); go_simp; try (with_reducible rfl))
                (try simp only [Act.put, List.setIfInBounds_toArray, List.set_cons_zero, List.set_cons_succ, List.getElem_toArray, List.getElem_cons_zero, List.getElem_cons_succ])
                refine wpAnyH_done (by kernel_rfl) ?_ _
                have hn1 : (r != r) = false := by simp
                have hn2 : (E != E) = false := by simp
                have HOF := hide hof
                clear hof hb8r
                go_wp2_with fail
                refine wp_region_held_drew (S := fun W => W.cell? ⟨g9, 0, none⟩ = some (.int .i64 t0.1) ∧ W.cell? ⟨g9, 1, none⟩ = some (.int .i64 t0.2.1) ∧ W.cell? ⟨g9, 2, none⟩ = some (.int .i64 t0.2.2) ∧ W.cell? ⟨g9, 3, none⟩ = some (.int .i64 t1.1) ∧ W.cell? ⟨g9, 4, none⟩ = some (.int .i64 t1.2.1) ∧ W.cell? ⟨g9, 5, none⟩ = some (.int .i64 t1.2.2) ∧ W.cell? ⟨g9, 6, none⟩ = some (.int .i64 t2.1) ∧ W.cell? ⟨g9, 7, none⟩ = some (.int .i64 t2.2.1) ∧ W.cell? ⟨g9, 8, none⟩ = some (.int .i64 t2.2.2) ∧ Below w8.heap.size w8 W) (by kernel_rfl) (cells9b HCT.out hg9 (bdrew hb20)) (fun hHeld => ?_)
                refine wpAnyH_take (i := 0) (v := ?_) rfl (by kernel_rfl) (by kernel_rfl) (by kernel_rfl) (fun _ _ _ h => h) (Or.inl ⟨by rfl, ?hy52⟩) (by assumption) ?rs52
                case hy52 => (intro w hSw; (try dsimp only at hSw); go_simp; try (with_reducible rfl))
                (try simp only [Act.put, List.setIfInBounds_toArray, List.set_cons_zero, List.set_cons_succ, List.getElem_toArray, List.getElem_cons_zero, List.getElem_cons_succ])
                refine wpAnyH_take (i := 1) (v := ?_) rfl (by kernel_rfl) (by kernel_rfl) (by kernel_rfl) (fun _ _ _ h => h) (Or.inl ⟨by rfl, ?hy53⟩) (by assumption) ?rs53
                case hy53 => (intro w hSw; (try dsimp only at hSw); go_simp; try (with_reducible rfl))
                (try simp only [Act.put, List.setIfInBounds_toArray, List.set_cons_zero, List.set_cons_succ, List.getElem_toArray, List.getElem_cons_zero, List.getElem_cons_succ])
                refine wpAnyH_take (i := 2) (v := ?_) rfl (by kernel_rfl) (by kernel_rfl) (by kernel_rfl) (fun _ _ _ h => h) (Or.inl ⟨by rfl, ?hy54⟩) (by assumption) ?rs54
                case hy54 => (intro w hSw; (try dsimp only at hSw); go_simp; try (with_reducible rfl))
                (try simp only [Act.put, List.setIfInBounds_toArray, List.set_cons_zero, List.set_cons_succ, List.getElem_toArray, List.getElem_cons_zero, List.getElem_cons_succ])
                refine wpAnyH_take (i := 3) (v := ?_) rfl (by kernel_rfl) (by kernel_rfl) (by kernel_rfl) (fun _ _ _ h => h) (Or.inl ⟨by rfl, ?hy55⟩) (by assumption) ?rs55
                case hy55 => (intro w hSw; (try dsimp only at hSw); go_simp; try (with_reducible rfl))
                (try simp only [Act.put, List.setIfInBounds_toArray, List.set_cons_zero, List.set_cons_succ, List.getElem_toArray, List.getElem_cons_zero, List.getElem_cons_succ])
                refine wpAnyH_take (i := 4) (v := ?_) rfl (by kernel_rfl) (by kernel_rfl) (by kernel_rfl) (fun _ _ _ h => h) (Or.inl ⟨by rfl, ?hy56⟩) (by assumption) ?rs56
                case hy56 => (intro w hSw; (try dsimp only at hSw); go_simp; try (with_reducible rfl))
                (try simp only [Act.put, List.setIfInBounds_toArray, List.set_cons_zero, List.set_cons_succ, List.getElem_toArray, List.getElem_cons_zero, List.getElem_cons_succ])
                refine wpAnyH_take (i := 5) (v := ?_) rfl (by kernel_rfl) (by kernel_rfl) (by kernel_rfl) (fun _ _ _ h => h) (Or.inl ⟨by rfl, ?hy57⟩) (by assumption) ?rs57
                case hy57 => (intro w hSw; (try dsimp only at hSw); go_simp; try (with_reducible rfl))
                (try simp only [Act.put, List.setIfInBounds_toArray, List.set_cons_zero, List.set_cons_succ, List.getElem_toArray, List.getElem_cons_zero, List.getElem_cons_succ])
                refine wpAnyH_take (i := 6) (v := ?_) rfl (by kernel_rfl) (by kernel_rfl) (by kernel_rfl) (fun _ _ _ h => h) (Or.inl ⟨by rfl, ?hy58⟩) (by assumption) ?rs58
                case hy58 => (intro w hSw; (try dsimp only at hSw); go_simp; try (with_reducible rfl))
                (try simp only [Act.put, List.setIfInBounds_toArray, List.set_cons_zero, List.set_cons_succ, List.getElem_toArray, List.getElem_cons_zero, List.getElem_cons_succ])
                refine wpAnyH_take (i := 7) (v := ?_) rfl (by kernel_rfl) (by kernel_rfl) (by kernel_rfl) (fun _ _ _ h => h) (Or.inl ⟨by rfl, ?hy59⟩) (by assumption) ?rs59
                case hy59 => (intro w hSw; (try dsimp only at hSw); go_simp; try (with_reducible rfl))
                (try simp only [Act.put, List.setIfInBounds_toArray, List.set_cons_zero, List.set_cons_succ, List.getElem_toArray, List.getElem_cons_zero, List.getElem_cons_succ])
                refine wpAnyH_take (i := 8) (v := ?_) rfl (by kernel_rfl) (by kernel_rfl) (by kernel_rfl) (fun _ _ _ h => h) (Or.inl ⟨by rfl, ?hy60⟩) (by assumption) ?rs60
                case hy60 => (intro w hSw; (try dsimp only at hSw); go_simp; try (with_reducible rfl))
                (try simp only [Act.put, List.setIfInBounds_toArray, List.set_cons_zero, List.set_cons_succ, List.getElem_toArray, List.getElem_cons_zero, List.getElem_cons_succ])
                refine wpAnyH_take (i := 9) (v := ?_) rfl (by kernel_rfl) (by kernel_rfl) (by kernel_rfl) (fun _ _ _ h => h) (Or.inl ⟨by rfl, ?hy61⟩) (by assumption) ?rs61
                case hy61 => (intro w hSw; (try dsimp only at hSw); go_simp; try (with_reducible rfl))
                (try simp only [Act.put, List.setIfInBounds_toArray, List.set_cons_zero, List.set_cons_succ, List.getElem_toArray, List.getElem_cons_zero, List.getElem_cons_succ])
                refine wpAnyH_take (i := 10) (v := ?_) rfl (by kernel_rfl) (by kernel_rfl) (by kernel_rfl) (fun _ _ _ h => h) (Or.inl ⟨by rfl, ?hy62⟩) (by assumption) ?rs62
                case hy62 => (intro w hSw; (try dsimp only at hSw); go_simp; try (with_reducible rfl))
                (try simp only [Act.put, List.setIfInBounds_toArray, List.set_cons_zero, List.set_cons_succ, List.getElem_toArray, List.getElem_cons_zero, List.getElem_cons_succ])
                refine wpAnyH_take (i := 11) (v := ?_) rfl (by kernel_rfl) (by kernel_rfl) (by kernel_rfl) (fun _ _ _ h => h) (Or.inl ⟨by rfl, ?hy63⟩) (by assumption) ?rs63
                case hy63 => (intro w hSw; (try dsimp only at hSw); go_simp; try (with_reducible rfl))
                (try simp only [Act.put, List.setIfInBounds_toArray, List.set_cons_zero, List.set_cons_succ, List.getElem_toArray, List.getElem_cons_zero, List.getElem_cons_succ])
                refine wpAnyH_ready (rs := [12]) (by kernel_rfl) (by simp) ?_
                refine AllReadyH.cons rfl (fun K hK => ?_) ?_
                · go_simp
                  refine (f32 Az Am S m t1 t2 cz cm _ hS1 hS2 hm1 hm8 hS40 (hS18.to (bthen (bdrew (Below.refl _ _)) (bthen hb19 (bdrew (Below.refl _ _))))) (hm18.to (bthen (bdrew (Below.refl _ _)) (bthen hb19 (bdrew (Below.refl _ _)))))).mono ?_
                  intro e w21 hpost
                  obtain ⟨rfl, hb21⟩ := of_ref HOF.out hpost
                  refine hK.out _ _ (by exact (cells9b HCT.out hg9 (bthen (bdrew hb20) hb21))) (fun hHeld => ?_)
                  clear hK K
                  (try simp only [Act.put, List.setIfInBounds_toArray, List.set_cons_zero, List.set_cons_succ, List.getElem_toArray, List.getElem_cons_zero, List.getElem_cons_succ])
                  refine wpAnyH_take (i := 13) (v := ?_) rfl (by kernel_rfl) (by kernel_rfl) (by kernel_rfl) (fun _ _ _ h => h) (Or.inl ⟨by rfl, ?hy64⟩) (by assumption) ?rs64
                  case hy64 => (intro w hSw; (try dsimp only at hSw); go_simp; try (with_reducible rfl))
                  (try simp only [Act.put, List.setIfInBounds_toArray, List.set_cons_zero, List.set_cons_succ, List.getElem_toArray, List.getElem_cons_zero, List.getElem_cons_succ])
                  refine wpAnyH_take (i := 14) (v := ?_) rfl (by kernel_rfl) (by kernel_rfl) (by kernel_rfl) (fun _ _ _ h => h) (Or.inl ⟨by rfl, ?hy65⟩) (by assumption) ?rs65
                  case hy65 => (intro w hSw; (try dsimp only at hSw); go_simp; try (with_reducible rfl))
                  (try simp only [Act.put, List.setIfInBounds_toArray, List.set_cons_zero, List.set_cons_succ, List.getElem_toArray, List.getElem_cons_zero, List.getElem_cons_succ])
                  refine wpAnyH_take (i := 15) (v := ?_) rfl (by kernel_rfl) (by kernel_rfl) (by kernel_rfl) (fun _ _ _ h => h) (Or.inl ⟨by rfl, ?hy66⟩) (by assumption) ?rs66
                  case hy66 => (intro w hSw; (try dsimp only at hSw); go_simp; try (with_reducible rfl))
                  (try simp only [Act.put, List.setIfInBounds_toArray, List.set_cons_zero, List.set_cons_succ, List.getElem_toArray, List.getElem_cons_zero, List.getElem_cons_succ])
                  refine wpAnyH_take (i := 16) (v := ?_) rfl (by kernel_rfl) (by kernel_rfl) (by kernel_rfl) (fun _ _ _ h => h) (Or.inl ⟨by rfl, ?hy67⟩) (by assumption) ?rs67
                  case hy67 => (intro w hSw; (try dsimp only at hSw); go_simp; try (with_reducible rfl))
                  (try simp only [Act.put, List.setIfInBounds_toArray, List.set_cons_zero, List.set_cons_succ, List.getElem_toArray, List.getElem_cons_zero, List.getElem_cons_succ])
                  refine wpAnyH_take (i := 17) (v := ?_) rfl (by kernel_rfl) (by kernel_rfl) (by kernel_rfl) (fun _ _ _ h => h) (Or.inl ⟨by rfl, ?hy68⟩) (by assumption) ?rs68
                  case hy68 => (intro w hSw; (try dsimp only at hSw); go_simp; try (with_reducible rfl))
                  (try simp only [Act.put, List.setIfInBounds_toArray, List.set_cons_zero, List.set_cons_succ, List.getElem_toArray, List.getElem_cons_zero, List.getElem_cons_succ])
                  refine wpAnyH_done (by kernel_rfl) ?_ _
                  go_wp2_with fail
                  go_roundw
                  case rel => exact ⟨.inr (.inr (.inl rfl)), bthen hbk (bthen (bdrew (Below.refl _ _)) (bthen hb19 (bthen (bdrew (Below.refl _ _)) hb21)))⟩
                  case measure => simp [intOf]
                exact AllReadyH.nil
              exact AllReadyH.nil
            · have hb8r := hb8k
              have hwr : IntKind.i64.wrap 3 = 3 := by decide
              have hwt : Int.tmod 3 3 = 0 := by decide
              go_wp2_with fail
              refine wp_region_held_drew (S := fun W => W.cell? ⟨g9, 0, none⟩ = some (.int .i64 t0.1) ∧ W.cell? ⟨g9, 1, none⟩ = some (.int .i64 t0.2.1) ∧ W.cell? ⟨g9, 2, none⟩ = some (.int .i64 t0.2.2) ∧ W.cell? ⟨g9, 3, none⟩ = some (.int .i64 t1.1) ∧ W.cell? ⟨g9, 4, none⟩ = some (.int .i64 t1.2.1) ∧ W.cell? ⟨g9, 5, none⟩ = some (.int .i64 t1.2.2) ∧ W.cell? ⟨g9, 6, none⟩ = some (.int .i64 t2.1) ∧ W.cell? ⟨g9, 7, none⟩ = some (.int .i64 t2.2.1) ∧ W.cell? ⟨g9, 8, none⟩ = some (.int .i64 t2.2.2) ∧ Below w8.heap.size w8 W) (by kernel_rfl) (cells9b HCT.out hg9 (bdrew hb8r)) (fun hHeld => ?_)
              refine wpAnyH_take (i := 0) (v := ?_) rfl (by kernel_rfl) (by kernel_rfl) (by kernel_rfl) (fun _ _ _ h => h) (Or.inl ⟨by rfl, ?hy69⟩) (by assumption) ?rs69
              case hy69 => (intro w hSw; (try dsimp only at hSw); go_simp; try (with_reducible rfl))
              (try simp only [Act.put, List.setIfInBounds_toArray, List.set_cons_zero, List.set_cons_succ, List.getElem_toArray, List.getElem_cons_zero, List.getElem_cons_succ])
              refine wpAnyH_take (i := 1) (v := ?_) rfl (by kernel_rfl) (by kernel_rfl) (by kernel_rfl) (fun _ _ _ h => h) (Or.inl ⟨by rfl, ?hy70⟩) (by assumption) ?rs70
              case hy70 => (intro w hSw; (try dsimp only at hSw); go_simp; try (with_reducible rfl))
              (try simp only [Act.put, List.setIfInBounds_toArray, List.set_cons_zero, List.set_cons_succ, List.getElem_toArray, List.getElem_cons_zero, List.getElem_cons_succ])
              refine wpAnyH_take (i := 2) (v := ?_) rfl (by kernel_rfl) (by kernel_rfl) (by kernel_rfl) (fun _ _ _ h => h) (Or.inl ⟨by rfl, ?hy71⟩) (by assumption) ?rs71
              case hy71 => (intro w hSw; (try dsimp only at hSw); go_simp; try (with_reducible rfl))
              (try simp only [Act.put, List.setIfInBounds_toArray, List.set_cons_zero, List.set_cons_succ, List.getElem_toArray, List.getElem_cons_zero, List.getElem_cons_succ])
              refine wpAnyH_take (i := 3) (v := ?_) rfl (by kernel_rfl) (by kernel_rfl) (by kernel_rfl) (fun _ _ _ h => h) (Or.inl ⟨by rfl, ?hy72⟩) (by assumption) ?rs72
              case hy72 => (intro w hSw; (try dsimp only at hSw); go_simp; try (with_reducible rfl))
              (try simp only [Act.put, List.setIfInBounds_toArray, List.set_cons_zero, List.set_cons_succ, List.getElem_toArray, List.getElem_cons_zero, List.getElem_cons_succ])
              refine wpAnyH_take (i := 4) (v := ?_) rfl (by kernel_rfl) (by kernel_rfl) (by kernel_rfl) (fun _ _ _ h => h) (Or.inl ⟨by rfl, ?hy73⟩) (by assumption) ?rs73
              case hy73 => (intro w hSw; (try dsimp only at hSw); go_simp; try (with_reducible rfl))
              (try simp only [Act.put, List.setIfInBounds_toArray, List.set_cons_zero, List.set_cons_succ, List.getElem_toArray, List.getElem_cons_zero, List.getElem_cons_succ])
              refine wpAnyH_take (i := 5) (v := ?_) rfl (by kernel_rfl) (by kernel_rfl) (by kernel_rfl) (fun _ _ _ h => h) (Or.inl ⟨by rfl, ?hy74⟩) (by assumption) ?rs74
              case hy74 => (intro w hSw; (try dsimp only at hSw); go_simp; try (with_reducible rfl))
              (try simp only [Act.put, List.setIfInBounds_toArray, List.set_cons_zero, List.set_cons_succ, List.getElem_toArray, List.getElem_cons_zero, List.getElem_cons_succ])
              refine wpAnyH_take (i := 6) (v := ?_) rfl (by kernel_rfl) (by kernel_rfl) (by kernel_rfl) (fun _ _ _ h => h) (Or.inl ⟨by rfl, ?hy75⟩) (by assumption) ?rs75
              case hy75 => (intro w hSw; (try dsimp only at hSw); go_simp; try (with_reducible rfl))
              (try simp only [Act.put, List.setIfInBounds_toArray, List.set_cons_zero, List.set_cons_succ, List.getElem_toArray, List.getElem_cons_zero, List.getElem_cons_succ])
              refine wpAnyH_take (i := 7) (v := ?_) rfl (by kernel_rfl) (by kernel_rfl) (by kernel_rfl) (fun _ _ _ h => h) (Or.inl ⟨by rfl, ?hy76⟩) (by assumption) ?rs76
              case hy76 => (intro w hSw; (try dsimp only at hSw); go_simp; try (with_reducible rfl))
              (try simp only [Act.put, List.setIfInBounds_toArray, List.set_cons_zero, List.set_cons_succ, List.getElem_toArray, List.getElem_cons_zero, List.getElem_cons_succ])
              refine wpAnyH_take (i := 8) (v := ?_) rfl (by kernel_rfl) (by kernel_rfl) (by kernel_rfl) (fun _ _ _ h => h) (Or.inl ⟨by rfl, ?hy77⟩) (by assumption) ?rs77
              case hy77 => (intro w hSw; (try dsimp only at hSw); go_simp; try (with_reducible rfl))
              (try simp only [Act.put, List.setIfInBounds_toArray, List.set_cons_zero, List.set_cons_succ, List.getElem_toArray, List.getElem_cons_zero, List.getElem_cons_succ])
              refine wpAnyH_take (i := 9) (v := ?_) rfl (by kernel_rfl) (by kernel_rfl) (by kernel_rfl) (fun _ _ _ h => h) (Or.inl ⟨by rfl, ?hy78⟩) (by assumption) ?rs78
              case hy78 => (intro w hSw; (try dsimp only at hSw); go_simp; try (with_reducible rfl))
              (try simp only [Act.put, List.setIfInBounds_toArray, List.set_cons_zero, List.set_cons_succ, List.getElem_toArray, List.getElem_cons_zero, List.getElem_cons_succ])
              refine wpAnyH_take (i := 10) (v := ?_) rfl (by kernel_rfl) (by kernel_rfl) (by kernel_rfl) (fun _ _ _ h => h) (Or.inl ⟨by rfl, ?hy79⟩) (by assumption) ?rs79
              case hy79 => (intro w hSw; (try dsimp only at hSw); go_simp; try (with_reducible rfl))
              (try simp only [Act.put, List.setIfInBounds_toArray, List.set_cons_zero, List.set_cons_succ, List.getElem_toArray, List.getElem_cons_zero, List.getElem_cons_succ])
              refine wpAnyH_take (i := 11) (v := ?_) rfl (by kernel_rfl) (by kernel_rfl) (by kernel_rfl) (fun _ _ _ h => h) (Or.inl ⟨by rfl, ?hy80⟩) (by assumption) ?rs80
              case hy80 => (intro w hSw; (try dsimp only at hSw); go_simp; try (with_reducible rfl))
              (try simp only [Act.put, List.setIfInBounds_toArray, List.set_cons_zero, List.set_cons_succ, List.getElem_toArray, List.getElem_cons_zero, List.getElem_cons_succ])
              refine wpAnyH_ready (rs := [12]) (by kernel_rfl) (by simp) ?_
              refine AllReadyH.cons rfl (fun K hK => ?_) ?_
              · go_simp
                refine (f31 Az Am S m t2 t0 cz cm _ hS1 hS2 hm1 hm2 (hS18.to (bdrew (Below.refl _ _))) (hm18.to (bdrew (Below.refl _ _)))).mono ?_
                intro e w19 hpost
                obtain ⟨r, E, hof, rfl, hb19⟩ := of_all hpost
                have hb20 := bthen (bdrew hb8r) hb19
                refine hK.out _ _ (by exact (cells9b HCT.out hg9 hb20)) (fun hHeld => ?_)
                clear hK K
                (try simp only [Act.put, List.setIfInBounds_toArray, List.set_cons_zero, List.set_cons_succ, List.getElem_toArray, List.getElem_cons_zero, List.getElem_cons_succ])
                refine wpAnyH_take (i := 13) (v := ?_) rfl (by kernel_rfl) (by kernel_rfl) (by kernel_rfl) (fun _ _ _ h => h) (Or.inl ⟨by rfl, ?hy81⟩) (by assumption) ?rs81
                case hy81 => (intro w hSw; (try dsimp only at hSw); go_simp; try (with_reducible rfl))
                (try simp only [Act.put, List.setIfInBounds_toArray, List.set_cons_zero, List.set_cons_succ, List.getElem_toArray, List.getElem_cons_zero, List.getElem_cons_succ])
                refine wpAnyH_take (i := 14) (v := ?_) rfl (by kernel_rfl) (by kernel_rfl) (by kernel_rfl) (fun _ _ _ h => h) (Or.inl ⟨by rfl, ?hy82⟩) (by assumption) ?rs82
                case hy82 => (intro w hSw; (try dsimp only at hSw); go_simp; try (with_reducible rfl))
                (try simp only [Act.put, List.setIfInBounds_toArray, List.set_cons_zero, List.set_cons_succ, List.getElem_toArray, List.getElem_cons_zero, List.getElem_cons_succ])
                refine wpAnyH_take (i := 15) (v := ?_) rfl (by kernel_rfl) (by kernel_rfl) (by kernel_rfl) (fun _ _ _ h => h) (Or.inl ⟨by rfl, ?hy83⟩) (by assumption) ?rs83
                case hy83 => (intro w hSw; (try dsimp only at hSw); go_simp; try (with_reducible rfl))
                (try simp only [Act.put, List.setIfInBounds_toArray, List.set_cons_zero, List.set_cons_succ, List.getElem_toArray, List.getElem_cons_zero, List.getElem_cons_succ])
                refine wpAnyH_take (i := 16) (v := ?_) rfl (by kernel_rfl) (by kernel_rfl) (by kernel_rfl) (fun _ _ _ h => h) (Or.inl ⟨by rfl, ?hy84⟩) (by assumption) ?rs84
                case hy84 => (intro w hSw; (try dsimp only at hSw); go_simp; try (with_reducible rfl))
                (try simp only [Act.put, List.setIfInBounds_toArray, List.set_cons_zero, List.set_cons_succ, List.getElem_toArray, List.getElem_cons_zero, List.getElem_cons_succ])
                refine wpAnyH_take (i := 17) (v := ?_) rfl (by kernel_rfl) (by kernel_rfl) (by kernel_rfl) (fun _ _ _ h => h) (Or.inl ⟨by rfl, ?hy85⟩) (by assumption) ?rs85
                case hy85 => (intro w hSw; (try dsimp only at hSw); go_simp; try (with_reducible rfl))
                (try simp only [Act.put, List.setIfInBounds_toArray, List.set_cons_zero, List.set_cons_succ, List.getElem_toArray, List.getElem_cons_zero, List.getElem_cons_succ])
                refine wpAnyH_done (by kernel_rfl) ?_ _
                have hn1 : (r != r) = false := by simp
                have hn2 : (E != E) = false := by simp
                have HOF := hide hof
                clear hof hb8r
                go_wp2_with fail
                refine wp_region_held_drew (S := fun W => W.cell? ⟨g9, 0, none⟩ = some (.int .i64 t0.1) ∧ W.cell? ⟨g9, 1, none⟩ = some (.int .i64 t0.2.1) ∧ W.cell? ⟨g9, 2, none⟩ = some (.int .i64 t0.2.2) ∧ W.cell? ⟨g9, 3, none⟩ = some (.int .i64 t1.1) ∧ W.cell? ⟨g9, 4, none⟩ = some (.int .i64 t1.2.1) ∧ W.cell? ⟨g9, 5, none⟩ = some (.int .i64 t1.2.2) ∧ W.cell? ⟨g9, 6, none⟩ = some (.int .i64 t2.1) ∧ W.cell? ⟨g9, 7, none⟩ = some (.int .i64 t2.2.1) ∧ W.cell? ⟨g9, 8, none⟩ = some (.int .i64 t2.2.2) ∧ Below w8.heap.size w8 W) (by kernel_rfl) (cells9b HCT.out hg9 (bdrew hb20)) (fun hHeld => ?_)
                refine wpAnyH_take (i := 0) (v := ?_) rfl (by kernel_rfl) (by kernel_rfl) (by kernel_rfl) (fun _ _ _ h => h) (Or.inl ⟨by rfl, ?hy86⟩) (by assumption) ?rs86
                case hy86 => (intro w hSw; (try dsimp only at hSw); go_simp; try (with_reducible rfl))
                (try simp only [Act.put, List.setIfInBounds_toArray, List.set_cons_zero, List.set_cons_succ, List.getElem_toArray, List.getElem_cons_zero, List.getElem_cons_succ])
                refine wpAnyH_take (i := 1) (v := ?_) rfl (by kernel_rfl) (by kernel_rfl) (by kernel_rfl) (fun _ _ _ h => h) (Or.inl ⟨by rfl, ?hy87⟩) (by assumption) ?rs87
                case hy87 => (intro w hSw; (try dsimp only at hSw); go_simp; try (with_reducible rfl))
                (try simp only [Act.put, List.setIfInBounds_toArray, List.set_cons_zero, List.set_cons_succ, List.getElem_toArray, List.getElem_cons_zero, List.getElem_cons_succ])
                refine wpAnyH_take (i := 2) (v := ?_) rfl (by kernel_rfl) (by kernel_rfl) (by kernel_rfl) (fun _ _ _ h => h) (Or.inl ⟨by rfl, ?hy88⟩) (by assumption) ?rs88
                case hy88 => (intro w hSw; (try dsimp only at hSw); go_simp; try (with_reducible rfl))
                (try simp only [Act.put, List.setIfInBounds_toArray, List.set_cons_zero, List.set_cons_succ, List.getElem_toArray, List.getElem_cons_zero, List.getElem_cons_succ])
                refine wpAnyH_take (i := 3) (v := ?_) rfl (by kernel_rfl) (by kernel_rfl) (by kernel_rfl) (fun _ _ _ h => h) (Or.inl ⟨by rfl, ?hy89⟩) (by assumption) ?rs89
                case hy89 => (intro w hSw; (try dsimp only at hSw); go_simp; try (with_reducible rfl))
                (try simp only [Act.put, List.setIfInBounds_toArray, List.set_cons_zero, List.set_cons_succ, List.getElem_toArray, List.getElem_cons_zero, List.getElem_cons_succ])
                refine wpAnyH_take (i := 4) (v := ?_) rfl (by kernel_rfl) (by kernel_rfl) (by kernel_rfl) (fun _ _ _ h => h) (Or.inl ⟨by rfl, ?hy90⟩) (by assumption) ?rs90
                case hy90 => (intro w hSw; (try dsimp only at hSw); go_simp; try (with_reducible rfl))
                (try simp only [Act.put, List.setIfInBounds_toArray, List.set_cons_zero, List.set_cons_succ, List.getElem_toArray, List.getElem_cons_zero, List.getElem_cons_succ])
                refine wpAnyH_take (i := 5) (v := ?_) rfl (by kernel_rfl) (by kernel_rfl) (by kernel_rfl) (fun _ _ _ h => h) (Or.inl ⟨by rfl, ?hy91⟩) (by assumption) ?rs91
                case hy91 => (intro w hSw; (try dsimp only at hSw); go_simp; try (with_reducible rfl))
                (try simp only [Act.put, List.setIfInBounds_toArray, List.set_cons_zero, List.set_cons_succ, List.getElem_toArray, List.getElem_cons_zero, List.getElem_cons_succ])
                refine wpAnyH_take (i := 6) (v := ?_) rfl (by kernel_rfl) (by kernel_rfl) (by kernel_rfl) (fun _ _ _ h => h) (Or.inl ⟨by rfl, ?hy92⟩) (by assumption) ?rs92
                case hy92 => (intro w hSw; (try dsimp only at hSw); go_simp; try (with_reducible rfl))
                (try simp only [Act.put, List.setIfInBounds_toArray, List.set_cons_zero, List.set_cons_succ, List.getElem_toArray, List.getElem_cons_zero, List.getElem_cons_succ])
                refine wpAnyH_take (i := 7) (v := ?_) rfl (by kernel_rfl) (by kernel_rfl) (by kernel_rfl) (fun _ _ _ h => h) (Or.inl ⟨by rfl, ?hy93⟩) (by assumption) ?rs93
                case hy93 => (intro w hSw; (try dsimp only at hSw); go_simp; try (with_reducible rfl))
                (try simp only [Act.put, List.setIfInBounds_toArray, List.set_cons_zero, List.set_cons_succ, List.getElem_toArray, List.getElem_cons_zero, List.getElem_cons_succ])
                refine wpAnyH_take (i := 8) (v := ?_) rfl (by kernel_rfl) (by kernel_rfl) (by kernel_rfl) (fun _ _ _ h => h) (Or.inl ⟨by rfl, ?hy94⟩) (by assumption) ?rs94
                case hy94 => (intro w hSw; (try dsimp only at hSw); go_simp; try (with_reducible rfl))
                (try simp only [Act.put, List.setIfInBounds_toArray, List.set_cons_zero, List.set_cons_succ, List.getElem_toArray, List.getElem_cons_zero, List.getElem_cons_succ])
                refine wpAnyH_take (i := 9) (v := ?_) rfl (by kernel_rfl) (by kernel_rfl) (by kernel_rfl) (fun _ _ _ h => h) (Or.inl ⟨by rfl, ?hy95⟩) (by assumption) ?rs95
                case hy95 => (intro w hSw; (try dsimp only at hSw); go_simp; try (with_reducible rfl))
                (try simp only [Act.put, List.setIfInBounds_toArray, List.set_cons_zero, List.set_cons_succ, List.getElem_toArray, List.getElem_cons_zero, List.getElem_cons_succ])
                refine wpAnyH_take (i := 10) (v := ?_) rfl (by kernel_rfl) (by kernel_rfl) (by kernel_rfl) (fun _ _ _ h => h) (Or.inl ⟨by rfl, ?hy96⟩) (by assumption) ?rs96
                case hy96 => (intro w hSw; (try dsimp only at hSw); go_simp; try (with_reducible rfl))
                (try simp only [Act.put, List.setIfInBounds_toArray, List.set_cons_zero, List.set_cons_succ, List.getElem_toArray, List.getElem_cons_zero, List.getElem_cons_succ])
                refine wpAnyH_take (i := 11) (v := ?_) rfl (by kernel_rfl) (by kernel_rfl) (by kernel_rfl) (fun _ _ _ h => h) (Or.inl ⟨by rfl, ?hy97⟩) (by assumption) ?rs97
                case hy97 => (intro w hSw; (try dsimp only at hSw); go_simp; try (with_reducible rfl))
                (try simp only [Act.put, List.setIfInBounds_toArray, List.set_cons_zero, List.set_cons_succ, List.getElem_toArray, List.getElem_cons_zero, List.getElem_cons_succ])
                refine wpAnyH_ready (rs := [12]) (by kernel_rfl) (by simp) ?_
                refine AllReadyH.cons rfl (fun K hK => ?_) ?_
                · go_simp
                  refine (f32 Az Am S m t2 t0 cz cm _ hS1 hS2 hm1 hm8 hS40 (hS18.to (bthen (bdrew (Below.refl _ _)) (bthen hb19 (bdrew (Below.refl _ _))))) (hm18.to (bthen (bdrew (Below.refl _ _)) (bthen hb19 (bdrew (Below.refl _ _)))))).mono ?_
                  intro e w21 hpost
                  obtain ⟨rfl, hb21⟩ := of_ref HOF.out hpost
                  refine hK.out _ _ (by exact (cells9b HCT.out hg9 (bthen (bdrew hb20) hb21))) (fun hHeld => ?_)
                  clear hK K
                  (try simp only [Act.put, List.setIfInBounds_toArray, List.set_cons_zero, List.set_cons_succ, List.getElem_toArray, List.getElem_cons_zero, List.getElem_cons_succ])
                  refine wpAnyH_take (i := 13) (v := ?_) rfl (by kernel_rfl) (by kernel_rfl) (by kernel_rfl) (fun _ _ _ h => h) (Or.inl ⟨by rfl, ?hy98⟩) (by assumption) ?rs98
                  case hy98 => (intro w hSw; (try dsimp only at hSw); go_simp; try (with_reducible rfl))
                  (try simp only [Act.put, List.setIfInBounds_toArray, List.set_cons_zero, List.set_cons_succ, List.getElem_toArray, List.getElem_cons_zero, List.getElem_cons_succ])
                  refine wpAnyH_take (i := 14) (v := ?_) rfl (by kernel_rfl) (by kernel_rfl) (by kernel_rfl) (fun _ _ _ h => h) (Or.inl ⟨by rfl, ?hy99⟩) (by assumption) ?rs99
                  case hy99 => (intro w hSw; (try dsimp only at hSw); go_simp; try (with_reducible rfl))
                  (try simp only [Act.put, List.setIfInBounds_toArray, List.set_cons_zero, List.set_cons_succ, List.getElem_toArray, List.getElem_cons_zero, List.getElem_cons_succ])
                  refine wpAnyH_take (i := 15) (v := ?_) rfl (by kernel_rfl) (by kernel_rfl) (by kernel_rfl) (fun _ _ _ h => h) (Or.inl ⟨by rfl, ?hy100⟩) (by assumption) ?rs100
                  case hy100 => (intro w hSw; (try dsimp only at hSw); go_simp; try (with_reducible rfl))
                  (try simp only [Act.put, List.setIfInBounds_toArray, List.set_cons_zero, List.set_cons_succ, List.getElem_toArray, List.getElem_cons_zero, List.getElem_cons_succ])
                  refine wpAnyH_take (i := 16) (v := ?_) rfl (by kernel_rfl) (by kernel_rfl) (by kernel_rfl) (fun _ _ _ h => h) (Or.inl ⟨by rfl, ?hy101⟩) (by assumption) ?rs101
                  case hy101 => (intro w hSw; (try dsimp only at hSw); go_simp; try (with_reducible rfl))
                  (try simp only [Act.put, List.setIfInBounds_toArray, List.set_cons_zero, List.set_cons_succ, List.getElem_toArray, List.getElem_cons_zero, List.getElem_cons_succ])
                  refine wpAnyH_take (i := 17) (v := ?_) rfl (by kernel_rfl) (by kernel_rfl) (by kernel_rfl) (fun _ _ _ h => h) (Or.inl ⟨by rfl, ?hy102⟩) (by assumption) ?rs102
                  case hy102 => (intro w hSw; (try dsimp only at hSw); go_simp; try (with_reducible rfl))
                  (try simp only [Act.put, List.setIfInBounds_toArray, List.set_cons_zero, List.set_cons_succ, List.getElem_toArray, List.getElem_cons_zero, List.getElem_cons_succ])
                  refine wpAnyH_done (by kernel_rfl) ?_ _
                  go_wp2_with fail
                  go_roundw
                  case rel => exact ⟨.inr (.inr (.inr rfl)), bthen hbk (bthen (bdrew (Below.refl _ _)) (bthen hb19 (bthen (bdrew (Below.refl _ _)) hb21)))⟩
                  case measure => simp [intOf]
                exact AllReadyH.nil
              exact AllReadyH.nil
            · go_wp2_with fail
              go_roundw
              case rel => exact ⟨j + 1, by omega, by go_num, hb8k⟩
              case measure => simp [intOf]; omega
    · have hlt' : ¬ (j : Int) < 3 := by omega
      go_wp2_with fail
      go_ret
      exact ⟨rfl, bthen hb18 hbr⟩
end Go.Proofs.Ytenhghkiapkejaa
