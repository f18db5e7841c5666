/- Contract of sane: the chapter's examples hold. -/
import Derived.Test.YtenhghkiapkejaaW18
import Derived.Test.YtenhghkiapkejaaW20
import Derived.Test.YtenhghkiapkejaaSortP
import Derived.Deep.RegionHeld3
namespace Go.Proofs.Ytenhghkiapkejaa
open Go.RowKit
theorem ex_sort : sortS [exA, exB] = [exB, exA] := by
  refine (sortS_uniq (List.Perm.swap _ _ _) ?_).symm
  decide
theorem saneS {w6 W : World} {ga gb : Nat} (j2 : Blk w6 ga 24 [.int .i64 110, .int .i64 1, .int .i64 1]) (j3 : Blk w6 gb 24 [.int .i64 103, .int .i64 2, .int .i64 1]) (h : Below w6.heap.size w6 W) :
    W.cell? ⟨ga, 0, none⟩ = some (.int .i64 110) ∧ W.cell? ⟨ga, 1, none⟩ = some (.int .i64 1) ∧ W.cell? ⟨ga, 2, none⟩ = some (.int .i64 1) ∧ W.cell? ⟨gb, 0, none⟩ = some (.int .i64 103) ∧ W.cell? ⟨gb, 1, none⟩ = some (.int .i64 2) ∧ W.cell? ⟨gb, 2, none⟩ = some (.int .i64 1) ∧ Below w6.heap.size w6 W := by
  obtain ⟨x0, x1, x2, _⟩ := (j2.below h j2.lt).all3
  obtain ⟨y0, y1, y2, _⟩ := (j3.below h j3.lt).all3
  exact ⟨x0, x1, x2, y0, y1, y2, h⟩
def H13 : Prop := ∀ (A : Option Addr) (l : List I3) (c : Nat) (w : World), l.length ≤ c → c ≤ 9223372036854775807 → l.length ≤ 100 → SlR w w.heap.size 3 A l.length (l.flatMap c3) →
    Calls Try.prog 13 #[.slice A l.length c] w fun e w' => ∃ v, e = .returned v ∧ w'.ownsRow w.heap.size 24 3 v l.length ((sortS l).flatMap c3) ∧ Below w.heap.size w w'
theorem s18a (w : World) : Calls Try.prog 18 #[.agg #[.int .i64 103, .int .i64 2, .int .i64 1], .agg #[.int .i64 110, .int .i64 1, .int .i64 1]] w fun e w' => e = .returned (.bool true) ∧ Below w.heap.size w w' := f18 exB exA w
theorem s18b (w : World) : Calls Try.prog 18 #[.agg #[.int .i64 110, .int .i64 1, .int .i64 1], .agg #[.int .i64 103, .int .i64 2, .int .i64 1]] w fun e w' => e = .returned (.bool false) ∧ Below w.heap.size w w' := f18 exA exB w
theorem s20a (w : World) : Calls Try.prog 20 #[.agg #[.int .i64 110, .int .i64 1, .int .i64 1]] w fun e w' => e = .returned (.bool true) ∧ Below w.heap.size w w' := f20 exA w
theorem s20b (w : World) : Calls Try.prog 20 #[.agg #[.int .i64 0, .int .i64 0, .int .i64 0]] w fun e w' => e = .returned (.bool false) ∧ Below w.heap.size w w' := f20 (0, 0, 0) w
theorem slrAB (W : World) : SlR (W.alloc (.cells #[.int .i64 110, .int .i64 1, .int .i64 1, .int .i64 103, .int .i64 2, .int .i64 1] 24)) (W.alloc (.cells #[.int .i64 110, .int .i64 1, .int .i64 1, .int .i64 103, .int .i64 2, .int .i64 1] 24)).heap.size 3 (some ⟨W.heap.size, 0, none⟩) 2 (([exA, exB] : List I3).flatMap c3) :=
  (Blk.new W 24 (([exA, exB] : List I3).flatMap c3)).slr rfl (by simp)
theorem slrAB1 (W : World) (o : Obj) : SlR ((W.alloc (.cells #[.int .i64 110, .int .i64 1, .int .i64 1, .int .i64 103, .int .i64 2, .int .i64 1] 24)).alloc o) ((W.alloc (.cells #[.int .i64 110, .int .i64 1, .int .i64 1, .int .i64 103, .int .i64 2, .int .i64 1] 24)).alloc o).heap.size 3 (some ⟨W.heap.size, 0, none⟩) 2 (([exA, exB] : List I3).flatMap c3) :=
  ((Blk.new W 24 (([exA, exB] : List I3).flatMap c3)).alloc o).slr rfl (by simp; omega)
theorem slrAB2 (W : World) (o : Obj) : SlR ((W.alloc o).alloc (.cells #[.int .i64 110, .int .i64 1, .int .i64 1, .int .i64 103, .int .i64 2, .int .i64 1] 24)) ((W.alloc o).alloc (.cells #[.int .i64 110, .int .i64 1, .int .i64 1, .int .i64 103, .int .i64 2, .int .i64 1] 24)).heap.size 3 (some ⟨W.heap.size + 1, 0, none⟩) 2 (([exA, exB] : List I3).flatMap c3) := by
  have h := Blk.new (W.alloc o) 24 (([exA, exB] : List I3).flatMap c3)
  rw [World.size_alloc] at h
  exact h.slr rfl (by simp)
theorem slrBA (W : World) : SlR (W.alloc (.cells #[.int .i64 103, .int .i64 2, .int .i64 1, .int .i64 110, .int .i64 1, .int .i64 1] 24)) (W.alloc (.cells #[.int .i64 103, .int .i64 2, .int .i64 1, .int .i64 110, .int .i64 1, .int .i64 1] 24)).heap.size 3 (some ⟨W.heap.size, 0, none⟩) 2 (([exB, exA] : List I3).flatMap c3) :=
  (Blk.new W 24 (([exB, exA] : List I3).flatMap c3)).slr rfl (by simp)
theorem slrBA1 {W w' : World} {o : Obj} (h : Below ((W.alloc (.cells #[.int .i64 103, .int .i64 2, .int .i64 1, .int .i64 110, .int .i64 1, .int .i64 1] 24)).alloc o).heap.size ((W.alloc (.cells #[.int .i64 103, .int .i64 2, .int .i64 1, .int .i64 110, .int .i64 1, .int .i64 1] 24)).alloc o) w') : SlR w' w'.heap.size 3 (some ⟨W.heap.size, 0, none⟩) 2 (([exB, exA] : List I3).flatMap c3) := by
  have k := ((Blk.new W 24 (([exB, exA] : List I3).flatMap c3)).alloc o)
  have k' := k.below h k.lt
  exact k'.slr rfl k'.lt
theorem slrBA2 {W w' : World} {o : Obj} (h : Below ((W.alloc o).alloc (.cells #[.int .i64 103, .int .i64 2, .int .i64 1, .int .i64 110, .int .i64 1, .int .i64 1] 24)).heap.size ((W.alloc o).alloc (.cells #[.int .i64 103, .int .i64 2, .int .i64 1, .int .i64 110, .int .i64 1, .int .i64 1] 24)) w') : SlR w' w'.heap.size 3 (some ⟨W.heap.size + 1, 0, none⟩) 2 (([exB, exA] : List I3).flatMap c3) := by
  have k := Blk.new (W.alloc o) 24 (([exB, exA] : List I3).flatMap c3)
  have k' := k.below h k.lt
  rw [World.size_alloc] at k'
  exact k'.slr rfl k'.lt
theorem s13 (h13 : H13) (A : Option Addr) {w0 w : World} (h0 : Below w0.heap.size w0 w) (hr : SlR w w.heap.size 3 A 2 (([exA, exB] : List I3).flatMap c3)) : Calls Try.prog 13 #[.slice A 2 2] w fun e w' => ∃ A' c', e = .returned (.slice A' 2 c') ∧ 2 ≤ c' ∧ c' ≤ maxLen ∧ SlR w' w'.heap.size 3 A' 2 (([exB, exA] : List I3).flatMap c3) ∧ Below w.heap.size w w' ∧ Below w0.heap.size w0 w' := by
  refine (h13 A [exA, exB] 2 w (by decide) (by omega) (by decide) hr).mono ?_
  rintro e w' ⟨v, rfl, hown, hb⟩
  rw [ex_sort] at hown
  obtain ⟨A', c', rfl, h1, h2, h3⟩ := SlR.of_own hown
  exact ⟨A', c', rfl, h1, h2, h3, hb, bthen h0 hb⟩
theorem s27a (A B : Option Addr) (c d : Nat) (w : World) (hn : 2 ≤ c) (hc : c ≤ 9223372036854775807) (hm : 2 ≤ d) (hd : d ≤ 9223372036854775807)
    (hr : SlR w w.heap.size 3 A 2 (exL.flatMap c3)) (hs : SlR w w.heap.size 4 B 2 (exM.flatMap c4)) : Calls Try.prog 27 #[.slice A 2 c, .slice B 2 d] w fun e w' => e = .returned (.bool true) ∧ Below w.heap.size w w' := by
  have := f27 A B exL exM c d w hn hc hm hd hr hs
  rw [ex_proper.1] at this
  exact this
theorem s27b (B : Option Addr) (d : Nat) (w : World) (hm : 2 ≤ d) (hd : d ≤ 9223372036854775807)
    (hs : SlR w w.heap.size 4 B 2 (exM.flatMap c4)) : Calls Try.prog 27 #[.slice none 0 0, .slice B 2 d] w fun e w' => e = .returned (.bool false) ∧ Below w.heap.size w w' := by
  have := f27 none B [] exM 0 d w (by simp) (by omega) hm hd SlR.nil hs
  rw [ex_proper.2.2.2] at this
  exact this
theorem s12 (A B : Option Addr) (c : Nat) (w : World) (hn : 2 ≤ c) (hc : c ≤ maxLen)
    (hr : SlR w w.heap.size 3 A 2 (([exB, exA] : List I3).flatMap c3)) (hs : SlR w w.heap.size 3 B 2 (([exB, exA] : List I3).flatMap c3)) : Calls Try.prog 12 #[.slice A 2 c, .slice B 2 2] w fun e w' => e = .returned (.bool true) ∧ Below w.heap.size w w' := by
  have := f12 A B [exB, exA] [exB, exA] c 2 w hn (by simpa [maxLen] using hc) (by decide) hr hs
  rw [decide_eq_true rfl] at this
  exact this
theorem blkNew {w : World} {g : Nat} {t : TypeId} {cs : List Value} (h : w.heap.size = g) : Blk (w.alloc (.cells cs.toArray t)) g t cs := by rw [← h]; exact Blk.new w t cs
set_option maxRecDepth 100000 in
set_option maxHeartbeats 8000000 in
theorem f10 (h13 : H13) (w : World) : Calls Try.prog 10 #[] w fun e w' => e = .returned (.bool true) ∧ Below w.heap.size w w' := by
  go_enter Try.func10, Try.ntmps10
  go_wp2_with fail
  refine (f35 _).mono ?_
  rintro e w1 ⟨rfl, hL1, hM1, hlt1, hb1⟩
  go_wp2_with fail
  refine (s24a _ _ 2 2 _ (by omega) (by omega) (by omega) (by omega) hL1 hM1).mono ?_
  rintro e w2 ⟨v, rfl, hT2, hb12⟩
  obtain ⟨AT, ct, rfl, hct1, hct2, hTs⟩ := SlR.of_own hT2
  have hL2 := hL1.to hb12
  have hM2 := hM1.to hb12
  have hb2 := bthen hb1 hb12
  clear hT2 hL1 hM1 hb12 hb1
  go_wp2_with fail
  refine (s24b _ _ 2 2 _ (by omega) (by omega) (by omega) (by omega) hL2 hM2).mono ?_
  rintro e w3 ⟨rfl, hb23⟩
  have hT3 := hTs.to hb23
  have hL3 := hL2.to hb23
  have hM3 := hM2.to hb23
  have hb3 := bthen hb2 hb23
  clear hTs hL2 hM2 hb23 hb2
  go_wp2_with fail
  refine (f29 _ exL 2 1 100 _ (by decide) (by omega) hL3).mono ?_
  rintro e w4 ⟨rfl, hb34⟩
  have hwv : whenV (whenS exL 1 100) = .tuple #[.agg #[.int .i64 90, .int .i64 101], .int .i64 0] := by rfl
  rw [hwv]
  have hT4 := hT3.to hb34
  have hL4 := hL3.to hb34
  have hM4 := hM3.to hb34
  have hb4 := bthen hb3 hb34
  clear hT3 hL3 hM3 hb34 hb3 hwv
  go_wp2_with fail
  have k1 := ((Blk.new w4 56 [.int .i64 90, .int .i64 101]).alloc (.cells #[.int .i64 110, .int .i64 1, .int .i64 1] 24)).alloc (.cells #[.int .i64 103, .int .i64 2, .int .i64 1] 24)
  have k2 := (Blk.new (w4.alloc (.cells #[.int .i64 90, .int .i64 101] 56)) 24 [.int .i64 110, .int .i64 1, .int .i64 1]).alloc (.cells #[.int .i64 103, .int .i64 2, .int .i64 1] 24)
  have k3 := Blk.new ((w4.alloc (.cells #[.int .i64 90, .int .i64 101] 56)).alloc (.cells #[.int .i64 110, .int .i64 1, .int .i64 1] 24)) 24 [.int .i64 103, .int .i64 2, .int .i64 1]
  have q5 := balloc (balloc (balloc (Below.refl w4.heap.size w4) (.cells #[.int .i64 90, .int .i64 101] 56)) (.cells #[.int .i64 110, .int .i64 1, .int .i64 1] 24)) (.cells #[.int .i64 103, .int .i64 2, .int .i64 1] 24)
  simp only [World.size_alloc] at k2 k3
  obtain ⟨w5, hw5⟩ : ∃ w5, ((w4.alloc (.cells #[.int .i64 90, .int .i64 101] 56)).alloc (.cells #[.int .i64 110, .int .i64 1, .int .i64 1] 24)).alloc (.cells #[.int .i64 103, .int .i64 2, .int .i64 1] 24) = w5 := ⟨_, rfl⟩
  have k1' : Blk w5 w4.heap.size 56 [.int .i64 90, .int .i64 101] := by rw [← hw5]; exact k1
  have k2' : Blk w5 (w4.heap.size + 1) 24 [.int .i64 110, .int .i64 1, .int .i64 1] := by rw [← hw5]; exact k2
  have k3' : Blk w5 (w4.heap.size + 1 + 1) 24 [.int .i64 103, .int .i64 2, .int .i64 1] := by rw [← hw5]; exact k3
  have q5' : Below w4.heap.size w4 w5 := by rw [← hw5]; exact q5
  rw [hw5]
  have hT5 := hT4.to q5'
  have hL5 := hL4.to q5'
  have hM5 := hM4.to q5'
  have hb5 := bthen hb4 q5'
  clear hT4 hL4 hM4 q5' q5 hb4 k1 k2 k3 hw5
  refine (s31a _ 2 _ (by omega) (by omega) hL5).mono ?_
  rintro e w6 ⟨rfl, hb56⟩
  have hT6 := hT5.to hb56
  have hL6 := hL5.to hb56
  have hM6 := hM5.to hb56
  have hb6 := bthen hb5 hb56
  have j1 := k1'.below hb56 k1'.lt
  have j2 := k2'.below hb56 k2'.lt
  have j3 := k3'.below hb56 k3'.lt
  clear hT5 hL5 hM5 hb56 hb5 k1' k2' k3'
  have l1 := j1.lt
  have l2 := j2.lt
  have l3 := j3.lt
  obtain ⟨x0, x1, x2, _, _, _⟩ := j2.all3
  obtain ⟨y0, y1, y2, _, _, _⟩ := j3.all3
  go_wp2_with fail
  have HJ2 := hide j2
  have HJ3 := hide j3
  clear j2 j3
  go_region_held3 (fun w' => w'.cell? ⟨w4.heap.size + 1, 0, none⟩ = some (.int .i64 110) ∧ w'.cell? ⟨w4.heap.size + 1, 1, none⟩ = some (.int .i64 1) ∧ w'.cell? ⟨w4.heap.size + 1, 2, none⟩ = some (.int .i64 1) ∧ w'.cell? ⟨w4.heap.size + 1 + 1, 0, none⟩ = some (.int .i64 103) ∧ w'.cell? ⟨w4.heap.size + 1 + 1, 1, none⟩ = some (.int .i64 2) ∧ w'.cell? ⟨w4.heap.size + 1 + 1, 2, none⟩ = some (.int .i64 1) ∧ Below w6.heap.size w6 w')
    (first | exact saneS HJ2.out HJ3.out (by assumption) | exact saneS HJ2.out HJ3.out (bdrew (Below.refl _ _)))
    (first | (go_at_call 31; go_split_ands; refine (s31b _ _ 2 2 _ (by omega) (by omega) (by omega) (by omega) (hL6.to (by assumption)) (hM6.to (by assumption))).mono ?_; rintro e w7 ⟨rfl, hb67⟩; have hb7 : Below w6.heap.size w6 w7 := bthen (by assumption) hb67))
  have hT7 := hT6.to hb7
  have hL7 := hL6.to hb7
  have hM7 := hM6.to hb7
  have hb07 := bthen hb6 hb7
  have j1 := j1.below hb7 j1.lt
  have j2 := HJ2.out.below hb7 l2
  have j3 := HJ3.out.below hb7 l3
  clear hT6 hL6 hM6 hb7 hb6 HJ2 HJ3 x0 x1 x2 y0 y1 y2
  go_wp2_with fail
  refine (f16 (some ⟨w7.heap.size, 0, none⟩) [(50, 3, 2)] 1 1 7 20 _ (by decide) (by omega) ((Blk.new w7 24 [.int .i64 50, .int .i64 3, .int .i64 2]).slr rfl (by simp)) (by unfold wf64; omega)).mono ?_
  rintro e w8 ⟨rfl, hb78⟩
  have hnv : nextV (nextS [(50, 3, 2)] 1 7 20) = .tuple #[.agg #[.int .i64 51, .int .i64 1, .int .i64 7], .int .i64 0] := by rfl
  rw [hnv]
  have hb8 := bthen (balloc (Below.refl w7.heap.size w7) _) hb78
  have hT8 := hT7.to hb8
  have hL8 := hL7.to hb8
  have hM8 := hM7.to hb8
  have hb08 := bthen hb07 hb8
  have j1 := j1.below hb8 j1.lt
  have j2 := j2.below hb8 j2.lt
  have j3 := j3.below hb8 j3.lt
  clear hT7 hL7 hM7 hb8 hb07 hb78 hnv
  have l1 := j1.lt
  have l2 := j2.lt
  have l3 := j3.lt
  obtain ⟨x0, x1, x2, _, _, _⟩ := j2.all3
  obtain ⟨y0, y1, y2, _, _, _⟩ := j3.all3
  go_wp2_with fail
  have k4 := Blk.new w8 24 [.int .i64 51, .int .i64 1, .int .i64 7]
  have q9 := balloc (Below.refl w8.heap.size w8) (.cells #[.int .i64 51, .int .i64 1, .int .i64 7] 24)
  refine (s31c _ _ 2 2 _ (by omega) (by omega) (by omega) (by omega) (hL8.to q9) (hM8.to q9)).mono ?_
  rintro e w10 ⟨rfl, hb9⟩
  have hb10 := bthen q9 hb9
  have hT10 := hT8.to hb10
  have hL10 := hL8.to hb10
  have hM10 := hM8.to hb10
  have hb010 := bthen hb08 hb10
  have j1 := j1.below hb10 j1.lt
  have j2 := j2.below hb10 j2.lt
  have j3 := j3.below hb10 j3.lt
  have j4 := k4.below hb9 k4.lt
  clear hT8 hL8 hM8 hb10 hb9 hb08 k4 q9 x0 x1 x2 y0 y1 y2
  have l1 := j1.lt
  have l2 := j2.lt
  have l3 := j3.lt
  have l4 := j4.lt
  obtain ⟨x0, x1, x2, _, _, _⟩ := j2.all3
  obtain ⟨y0, y1, y2, _, _, _⟩ := j3.all3
  obtain ⟨z0, z1, z2, _, _, _⟩ := j4.all3
  obtain ⟨p0, p1, _, _⟩ := j1.all2
  have hq := neq24
  go_wp2_with fail
  have j5 := Blk.new w10 41 (exT.flatMap c3)
  have q11 := balloc (Below.refl w10.heap.size w10) (.cells (exT.flatMap c3).toArray 41)
  refine (f26 AT (some ⟨w10.heap.size, 0, none⟩) exT exT ct 2 _ hct1 (by simpa [maxLen] using hct2) (by decide) (hT10.to q11) (j5.slr rfl (by simp))).mono ?_
  rintro e w12 ⟨rfl, hb11⟩
  rw [decide_eq_true (rfl : exT = exT)]
  have hb12 := bthen q11 hb11
  have hL12 := hL10.to hb12
  have hM12 := hM10.to hb12
  have hb012 := bthen hb010 hb12
  have j1 := j1.below hb12 j1.lt
  have j2 := j2.below hb12 j2.lt
  have j3 := j3.below hb12 j3.lt
  have j4 := j4.below hb12 j4.lt
  clear hT10 hL10 hM10 hb12 hb11 hb010 q11 x0 x1 x2 y0 y1 y2 z0 z1 z2 p0 p1 j5
  have l1 := j1.lt
  have l2 := j2.lt
  have l3 := j3.lt
  have l4 := j4.lt
  obtain ⟨x0, x1, x2, _, _, _⟩ := j2.all3
  obtain ⟨y0, y1, y2, _, _, _⟩ := j3.all3
  obtain ⟨z0, z1, z2, _, _, _⟩ := j4.all3
  obtain ⟨p0, p1, _, _⟩ := j1.all2
  have hq := eql24
  have hq' := eql56
  go_wp2_with fail
  have HJ2 := hide j2
  have HJ3 := hide j3
  clear j1 j2 j3 j4 z0 z1 z2 p0 p1 hq hq'
  go_region_held3 (fun w' => w'.cell? ⟨w4.heap.size + 1, 0, none⟩ = some (.int .i64 110) ∧ w'.cell? ⟨w4.heap.size + 1, 1, none⟩ = some (.int .i64 1) ∧ w'.cell? ⟨w4.heap.size + 1, 2, none⟩ = some (.int .i64 1) ∧ w'.cell? ⟨w4.heap.size + 1 + 1, 0, none⟩ = some (.int .i64 103) ∧ w'.cell? ⟨w4.heap.size + 1 + 1, 1, none⟩ = some (.int .i64 2) ∧ w'.cell? ⟨w4.heap.size + 1 + 1, 2, none⟩ = some (.int .i64 1) ∧ Below w12.heap.size w12 w')
    (first | exact saneS HJ2.out HJ3.out (by assumption) | exact saneS HJ2.out HJ3.out (bdrew (Below.refl _ _)) | (go_split_ands; first | exact saneS HJ2.out HJ3.out (by assumption) | exact saneS HJ2.out HJ3.out (balloc (by assumption) _)))
    (first | (go_at_call 18; go_split_ands; first | (with_reducible refine (s18a _).mono ?_; rintro e wa ⟨rfl, hba⟩; have hba' : Below w12.heap.size w12 wa := bthen (by assumption) hba) | (with_reducible refine (s18b _).mono ?_; rintro e wb ⟨rfl, hbb⟩; have hbb' : Below w12.heap.size w12 wb := bthen (by assumption) hbb)) |
      (go_at_call 20; go_split_ands; first | (with_reducible refine (s20a _).mono ?_; rintro e wc ⟨rfl, hbc⟩; have hbc' : Below w12.heap.size w12 wc := bthen (by assumption) hbc) | (with_reducible refine (s20b _).mono ?_; rintro e wd ⟨rfl, hbd⟩; have hbd' : Below w12.heap.size w12 wd := bthen (by assumption) hbd)) |
      (go_at_call 27; go_split_ands; first | (with_reducible refine (s27a _ _ 2 2 _ (by omega) (by omega) (by omega) (by omega) (hL12.to (by assumption)) (hM12.to (by assumption))).mono ?_; rintro e wf ⟨rfl, hbf⟩; have hbf' : Below w12.heap.size w12 wf := bthen (by assumption) hbf) | (with_reducible refine (s27b _ 2 _ (by omega) (by omega) (hM12.to (by assumption))).mono ?_; rintro e wg ⟨rfl, hbg⟩; have hbg' : Below w12.heap.size w12 wg := bthen (by assumption) hbg)) |
      (go_at_call 13; go_split_ands; refine (s13 h13 _ (w0 := w12) (by assumption) (by first | with_reducible exact slrAB _ | with_reducible exact slrAB1 _ _ | with_reducible exact slrAB2 _ _)).mono ?_; rintro e wh ⟨Ah, ch, rfl, hch1, hch2, hSh, hbh, hbh'⟩) |
      (go_at_call 12; go_split_ands; refine (s12 Ah _ ch _ hch1 hch2 (by first | with_reducible exact hSh | exact hSh.to (balloc (Below.refl _ _) _)) (by first | with_reducible exact slrBA _ | with_reducible exact slrBA1 hbh | with_reducible exact slrBA2 hbh)).mono ?_; rintro e wi ⟨rfl, hbi⟩; have hbi' : Below w12.heap.size w12 wi := bthen (by assumption) hbi))
  all_goals
    go_wp2
    go_ret
    exact ⟨rfl, bthen hb012 (by assumption)⟩
end Go.Proofs.Ytenhghkiapkejaa
