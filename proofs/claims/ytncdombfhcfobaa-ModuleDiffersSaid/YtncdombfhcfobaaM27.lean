/- Contract: the law's example. -/
import Derived.Test.YtncdombfhcfobaaM26
namespace Go.Proofs.Ytncdombfhcfobaa
open Go.RowKit
def bxI (n x y : Int) (s : ByteArray) : It := ⟨n, 1, x, y, s, 0⟩
def ex1 : List It := [⟨3, 1, 10, 10, ⟨#[97]⟩, 0⟩, ⟨5, 1, 20, 0, ⟨#[98]⟩, 0⟩]
def ex2 : List It := [⟨1, 1, 0, 0, ⟨#[99]⟩, 0⟩, ⟨7, 2, 100, 100, ⟨#[]⟩, 1⟩]
def ex3 : List It := [⟨1, 1, 0, 0, ⟨#[100]⟩, 0⟩, ⟨9, 1, 5, 5, ⟨#[101]⟩, 0⟩]
def exMs : List Mo := [⟨1, ex1⟩, ⟨2, ex2⟩]
def exC : Cp := ⟨2004, 2, 1000, 1000, ex3, []⟩
def ExPost (w : World) (e : Ending) (w' : World) : Prop :=
  ∃ g rows r, e = .returned (.tuple #[.slice (some ⟨g, 0, none⟩) 2 2, crV r]) ∧ SlR w' w'.heap.size 2 (some ⟨g, 0, none⟩) 2 (rows.flatMap cM) ∧ Mods w' rows exMs ∧ CpR w' r exC ∧ Below w.heap.size w w'
set_option linter.unusedSimpArgs false in
set_option maxRecDepth 100000 in
set_option maxHeartbeats 4000000 in
theorem c_example (w : World) : Calls Try.prog 28 #[] w (ExPost w) := by
  have gZ := Blk.new w 45 (cC zCR)
  have hb0 := balloc (Below.refl w.heap.size w) (.cells (cC zCR).toArray 45)
  go_enter Try.func28, Try.ntmps28
  go_wp2_with fail
  have hw := hb0
  clear hb0
  have HH := hide (And.intro hw gZ)
  clear hw gZ
  refine (c_box 3 10 10 ⟨#[97]⟩ _).mono ?_
  rintro e w1 ⟨rfl, hb1⟩
  obtain ⟨hw, gZ⟩ := HH.out
  clear HH
  have gZ := gZ.below hb1 gZ.lt
  have hw := bthen hw hb1
  clear hb1
  have HH := hide (And.intro hw gZ)
  clear hw gZ
  go_wp2_with fail
  refine (c_box 5 20 0 ⟨#[98]⟩ _).mono ?_
  rintro e w2 ⟨rfl, hb2⟩
  obtain ⟨hw, gZ⟩ := HH.out
  clear HH
  have gZ := gZ.below hb2 gZ.lt
  have hw := bthen hw hb2
  clear hb2
  have HH := hide (And.intro hw gZ)
  clear hw gZ
  go_wp2_with fail
  obtain ⟨hw, gZ⟩ := HH.out
  clear HH
  have sA := gZ.lt
  have gZ := (gZ.alloc (.cells #[.int .i64 3, .int .i64 1, .int .i64 10, .int .i64 10, .string ⟨#[97]⟩, .int .i64 0, .int .i64 5, .int .i64 1, .int .i64 20, .int .i64 0, .string ⟨#[98]⟩, .int .i64 0] 36)).alloc (.cells #[.int .i64 1, .slice (some ⟨w2.heap.size, 0, none⟩) 2 2] 27)
  have gA : Blk ((w2.alloc (.cells #[.int .i64 3, .int .i64 1, .int .i64 10, .int .i64 10, .string ⟨#[97]⟩, .int .i64 0, .int .i64 5, .int .i64 1, .int .i64 20, .int .i64 0, .string ⟨#[98]⟩, .int .i64 0] 36)).alloc (.cells #[.int .i64 1, .slice (some ⟨w2.heap.size, 0, none⟩) 2 2] 27)) w2.heap.size 36 (ex1.flatMap cI) := (Blk.new w2 36 (ex1.flatMap cI)).alloc (.cells #[.int .i64 1, .slice (some ⟨w2.heap.size, 0, none⟩) 2 2] 27)
  have gM : Blk ((w2.alloc (.cells #[.int .i64 3, .int .i64 1, .int .i64 10, .int .i64 10, .string ⟨#[97]⟩, .int .i64 0, .int .i64 5, .int .i64 1, .int .i64 20, .int .i64 0, .string ⟨#[98]⟩, .int .i64 0] 36)).alloc (.cells #[.int .i64 1, .slice (some ⟨w2.heap.size, 0, none⟩) 2 2] 27)) (w2.heap.size + 1) 27 (cM ⟨1, some ⟨w2.heap.size, 0, none⟩, 2, 2⟩) := by
    have := Blk.new (w2.alloc (.cells #[.int .i64 3, .int .i64 1, .int .i64 10, .int .i64 10, .string ⟨#[97]⟩, .int .i64 0, .int .i64 5, .int .i64 1, .int .i64 20, .int .i64 0, .string ⟨#[98]⟩, .int .i64 0] 36)) 27 (cM ⟨1, some ⟨w2.heap.size, 0, none⟩, 2, 2⟩)
    rw [show (w2.alloc (.cells #[.int .i64 3, .int .i64 1, .int .i64 10, .int .i64 10, .string ⟨#[97]⟩, .int .i64 0, .int .i64 5, .int .i64 1, .int .i64 20, .int .i64 0, .string ⟨#[98]⟩, .int .i64 0] 36)).heap.size = w2.heap.size + 1 from by simp] at this
    exact this
  have hw := balloc (balloc hw (.cells #[.int .i64 3, .int .i64 1, .int .i64 10, .int .i64 10, .string ⟨#[97]⟩, .int .i64 0, .int .i64 5, .int .i64 1, .int .i64 20, .int .i64 0, .string ⟨#[98]⟩, .int .i64 0] 36)) (.cells #[.int .i64 1, .slice (some ⟨w2.heap.size, 0, none⟩) 2 2] 27)
  generalize (w2.alloc (.cells #[.int .i64 3, .int .i64 1, .int .i64 10, .int .i64 10, .string ⟨#[97]⟩, .int .i64 0, .int .i64 5, .int .i64 1, .int .i64 20, .int .i64 0, .string ⟨#[98]⟩, .int .i64 0] 36)).alloc (.cells #[.int .i64 1, .slice (some ⟨w2.heap.size, 0, none⟩) 2 2] 27) = w3 at *
  have HH := hide (And.intro hw (And.intro gZ (And.intro gA gM)))
  clear hw gZ gA gM
  refine (c_box 1 0 0 ⟨#[99]⟩ _).mono ?_
  rintro e w4 ⟨rfl, hb3⟩
  obtain ⟨hw, gZ, gA, gM⟩ := HH.out
  clear HH
  have gZ := gZ.below hb3 gZ.lt
  have gA := gA.below hb3 gA.lt
  have gM := gM.below hb3 gM.lt
  have hw := bthen hw hb3
  clear hb3
  have HH := hide (And.intro hw (And.intro gZ (And.intro gA gM)))
  clear hw gZ gA gM
  go_wp2_with fail
  obtain ⟨hw, gZ, gA, gM⟩ := HH.out
  clear HH
  have sB := gZ.lt
  have gZ := (gZ.alloc (.cells #[.int .i64 1, .int .i64 1, .int .i64 0, .int .i64 0, .string ⟨#[99]⟩, .int .i64 0, .int .i64 7, .int .i64 2, .int .i64 100, .int .i64 100, .string ⟨#[]⟩, .int .i64 1] 36)).alloc (.cells #[.int .i64 2, .slice (some ⟨w4.heap.size, 0, none⟩) 2 2] 27)
  have gA := (gA.alloc (.cells #[.int .i64 1, .int .i64 1, .int .i64 0, .int .i64 0, .string ⟨#[99]⟩, .int .i64 0, .int .i64 7, .int .i64 2, .int .i64 100, .int .i64 100, .string ⟨#[]⟩, .int .i64 1] 36)).alloc (.cells #[.int .i64 2, .slice (some ⟨w4.heap.size, 0, none⟩) 2 2] 27)
  have gM := (gM.alloc (.cells #[.int .i64 1, .int .i64 1, .int .i64 0, .int .i64 0, .string ⟨#[99]⟩, .int .i64 0, .int .i64 7, .int .i64 2, .int .i64 100, .int .i64 100, .string ⟨#[]⟩, .int .i64 1] 36)).alloc (.cells #[.int .i64 2, .slice (some ⟨w4.heap.size, 0, none⟩) 2 2] 27)
  have gB : Blk ((w4.alloc (.cells #[.int .i64 1, .int .i64 1, .int .i64 0, .int .i64 0, .string ⟨#[99]⟩, .int .i64 0, .int .i64 7, .int .i64 2, .int .i64 100, .int .i64 100, .string ⟨#[]⟩, .int .i64 1] 36)).alloc (.cells #[.int .i64 2, .slice (some ⟨w4.heap.size, 0, none⟩) 2 2] 27)) w4.heap.size 36 (ex2.flatMap cI) := (Blk.new w4 36 (ex2.flatMap cI)).alloc (.cells #[.int .i64 2, .slice (some ⟨w4.heap.size, 0, none⟩) 2 2] 27)
  have gN : Blk ((w4.alloc (.cells #[.int .i64 1, .int .i64 1, .int .i64 0, .int .i64 0, .string ⟨#[99]⟩, .int .i64 0, .int .i64 7, .int .i64 2, .int .i64 100, .int .i64 100, .string ⟨#[]⟩, .int .i64 1] 36)).alloc (.cells #[.int .i64 2, .slice (some ⟨w4.heap.size, 0, none⟩) 2 2] 27)) (w4.heap.size + 1) 27 (cM ⟨2, some ⟨w4.heap.size, 0, none⟩, 2, 2⟩) := by
    have := Blk.new (w4.alloc (.cells #[.int .i64 1, .int .i64 1, .int .i64 0, .int .i64 0, .string ⟨#[99]⟩, .int .i64 0, .int .i64 7, .int .i64 2, .int .i64 100, .int .i64 100, .string ⟨#[]⟩, .int .i64 1] 36)) 27 (cM ⟨2, some ⟨w4.heap.size, 0, none⟩, 2, 2⟩)
    rw [show (w4.alloc (.cells #[.int .i64 1, .int .i64 1, .int .i64 0, .int .i64 0, .string ⟨#[99]⟩, .int .i64 0, .int .i64 7, .int .i64 2, .int .i64 100, .int .i64 100, .string ⟨#[]⟩, .int .i64 1] 36)).heap.size = w4.heap.size + 1 from by simp] at this
    exact this
  have hw := balloc (balloc hw (.cells #[.int .i64 1, .int .i64 1, .int .i64 0, .int .i64 0, .string ⟨#[99]⟩, .int .i64 0, .int .i64 7, .int .i64 2, .int .i64 100, .int .i64 100, .string ⟨#[]⟩, .int .i64 1] 36)) (.cells #[.int .i64 2, .slice (some ⟨w4.heap.size, 0, none⟩) 2 2] 27)
  generalize (w4.alloc (.cells #[.int .i64 1, .int .i64 1, .int .i64 0, .int .i64 0, .string ⟨#[99]⟩, .int .i64 0, .int .i64 7, .int .i64 2, .int .i64 100, .int .i64 100, .string ⟨#[]⟩, .int .i64 1] 36)).alloc (.cells #[.int .i64 2, .slice (some ⟨w4.heap.size, 0, none⟩) 2 2] 27) = w5 at *
  have HH := hide (And.intro hw (And.intro gZ (And.intro gA (And.intro gM (And.intro gB gN)))))
  clear hw gZ gA gM gB gN
  refine (c_box 1 0 0 ⟨#[100]⟩ _).mono ?_
  rintro e w6 ⟨rfl, hb5⟩
  obtain ⟨hw, gZ, gA, gM, gB, gN⟩ := HH.out
  clear HH
  have gZ := gZ.below hb5 gZ.lt
  have gA := gA.below hb5 gA.lt
  have gM := gM.below hb5 gM.lt
  have gB := gB.below hb5 gB.lt
  have gN := gN.below hb5 gN.lt
  have hw := bthen hw hb5
  clear hb5
  have HH := hide (And.intro hw (And.intro gZ (And.intro gA (And.intro gM (And.intro gB gN)))))
  clear hw gZ gA gM gB gN
  go_wp2_with fail
  refine (c_box 9 5 5 ⟨#[101]⟩ _).mono ?_
  rintro e w7 ⟨rfl, hb6⟩
  obtain ⟨hw, gZ, gA, gM, gB, gN⟩ := HH.out
  clear HH
  have gZ := gZ.below hb6 gZ.lt
  have gA := gA.below hb6 gA.lt
  have gM := gM.below hb6 gM.lt
  have gB := gB.below hb6 gB.lt
  have gN := gN.below hb6 gN.lt
  have hw := bthen hw hb6
  clear hb6
  have HH := hide (And.intro hw (And.intro gZ (And.intro gA (And.intro gM (And.intro gB gN)))))
  clear hw gZ gA gM gB gN
  go_upto_region 4 with (fail)
  obtain ⟨hw, gZ, gA, gM, gB, gN⟩ := HH.out
  clear HH
  have sC := gZ.lt
  have gZ := (gZ.alloc (.cells #[.int .i64 1, .int .i64 1, .int .i64 0, .int .i64 0, .string ⟨#[100]⟩, .int .i64 0, .int .i64 9, .int .i64 1, .int .i64 5, .int .i64 5, .string ⟨#[101]⟩, .int .i64 0] 36)).alloc (.cells #[.int .i64 2004, .int .i64 2, .int .i64 1000, .int .i64 1000, .slice (some ⟨w7.heap.size, 0, none⟩) 2 2, .slice none 0 0] 45)
  have gA := (gA.alloc (.cells #[.int .i64 1, .int .i64 1, .int .i64 0, .int .i64 0, .string ⟨#[100]⟩, .int .i64 0, .int .i64 9, .int .i64 1, .int .i64 5, .int .i64 5, .string ⟨#[101]⟩, .int .i64 0] 36)).alloc (.cells #[.int .i64 2004, .int .i64 2, .int .i64 1000, .int .i64 1000, .slice (some ⟨w7.heap.size, 0, none⟩) 2 2, .slice none 0 0] 45)
  have gM := (gM.alloc (.cells #[.int .i64 1, .int .i64 1, .int .i64 0, .int .i64 0, .string ⟨#[100]⟩, .int .i64 0, .int .i64 9, .int .i64 1, .int .i64 5, .int .i64 5, .string ⟨#[101]⟩, .int .i64 0] 36)).alloc (.cells #[.int .i64 2004, .int .i64 2, .int .i64 1000, .int .i64 1000, .slice (some ⟨w7.heap.size, 0, none⟩) 2 2, .slice none 0 0] 45)
  have gB := (gB.alloc (.cells #[.int .i64 1, .int .i64 1, .int .i64 0, .int .i64 0, .string ⟨#[100]⟩, .int .i64 0, .int .i64 9, .int .i64 1, .int .i64 5, .int .i64 5, .string ⟨#[101]⟩, .int .i64 0] 36)).alloc (.cells #[.int .i64 2004, .int .i64 2, .int .i64 1000, .int .i64 1000, .slice (some ⟨w7.heap.size, 0, none⟩) 2 2, .slice none 0 0] 45)
  have gN := (gN.alloc (.cells #[.int .i64 1, .int .i64 1, .int .i64 0, .int .i64 0, .string ⟨#[100]⟩, .int .i64 0, .int .i64 9, .int .i64 1, .int .i64 5, .int .i64 5, .string ⟨#[101]⟩, .int .i64 0] 36)).alloc (.cells #[.int .i64 2004, .int .i64 2, .int .i64 1000, .int .i64 1000, .slice (some ⟨w7.heap.size, 0, none⟩) 2 2, .slice none 0 0] 45)
  have gC : Blk ((w7.alloc (.cells #[.int .i64 1, .int .i64 1, .int .i64 0, .int .i64 0, .string ⟨#[100]⟩, .int .i64 0, .int .i64 9, .int .i64 1, .int .i64 5, .int .i64 5, .string ⟨#[101]⟩, .int .i64 0] 36)).alloc (.cells #[.int .i64 2004, .int .i64 2, .int .i64 1000, .int .i64 1000, .slice (some ⟨w7.heap.size, 0, none⟩) 2 2, .slice none 0 0] 45)) w7.heap.size 36 (ex3.flatMap cI) := (Blk.new w7 36 (ex3.flatMap cI)).alloc (.cells #[.int .i64 2004, .int .i64 2, .int .i64 1000, .int .i64 1000, .slice (some ⟨w7.heap.size, 0, none⟩) 2 2, .slice none 0 0] 45)
  have gP : Blk ((w7.alloc (.cells #[.int .i64 1, .int .i64 1, .int .i64 0, .int .i64 0, .string ⟨#[100]⟩, .int .i64 0, .int .i64 9, .int .i64 1, .int .i64 5, .int .i64 5, .string ⟨#[101]⟩, .int .i64 0] 36)).alloc (.cells #[.int .i64 2004, .int .i64 2, .int .i64 1000, .int .i64 1000, .slice (some ⟨w7.heap.size, 0, none⟩) 2 2, .slice none 0 0] 45)) (w7.heap.size + 1) 45 (cC ⟨2004, 2, 1000, 1000, some ⟨w7.heap.size, 0, none⟩, 2, 2, none, 0, 0⟩) := by
    have := Blk.new (w7.alloc (.cells #[.int .i64 1, .int .i64 1, .int .i64 0, .int .i64 0, .string ⟨#[100]⟩, .int .i64 0, .int .i64 9, .int .i64 1, .int .i64 5, .int .i64 5, .string ⟨#[101]⟩, .int .i64 0] 36)) 45 (cC ⟨2004, 2, 1000, 1000, some ⟨w7.heap.size, 0, none⟩, 2, 2, none, 0, 0⟩)
    rw [show (w7.alloc (.cells #[.int .i64 1, .int .i64 1, .int .i64 0, .int .i64 0, .string ⟨#[100]⟩, .int .i64 0, .int .i64 9, .int .i64 1, .int .i64 5, .int .i64 5, .string ⟨#[101]⟩, .int .i64 0] 36)).heap.size = w7.heap.size + 1 from by simp] at this
    exact this
  have hw := balloc (balloc hw (.cells #[.int .i64 1, .int .i64 1, .int .i64 0, .int .i64 0, .string ⟨#[100]⟩, .int .i64 0, .int .i64 9, .int .i64 1, .int .i64 5, .int .i64 5, .string ⟨#[101]⟩, .int .i64 0] 36)) (.cells #[.int .i64 2004, .int .i64 2, .int .i64 1000, .int .i64 1000, .slice (some ⟨w7.heap.size, 0, none⟩) 2 2, .slice none 0 0] 45)
  generalize (w7.alloc (.cells #[.int .i64 1, .int .i64 1, .int .i64 0, .int .i64 0, .string ⟨#[100]⟩, .int .i64 0, .int .i64 9, .int .i64 1, .int .i64 5, .int .i64 5, .string ⟨#[101]⟩, .int .i64 0] 36)).alloc (.cells #[.int .i64 2004, .int .i64 2, .int .i64 1000, .int .i64 1000, .slice (some ⟨w7.heap.size, 0, none⟩) 2 2, .slice none 0 0] 45) = w8 at *
  have HS := hide (fun (W : World) (h1 : Blk W (w2.heap.size + 1) 27 (cM ⟨1, some ⟨w2.heap.size, 0, none⟩, 2, 2⟩)) (h2 : Blk W (w4.heap.size + 1) 27 (cM ⟨2, some ⟨w4.heap.size, 0, none⟩, 2, 2⟩)) (h3 : Blk W (w7.heap.size + 1) 45 (cC ⟨2004, 2, 1000, 1000, some ⟨w7.heap.size, 0, none⟩, 2, 2, none, 0, 0⟩)) => (show (W.cell? ⟨w2.heap.size + 1, 0, none⟩ = some (.int .i64 1) ∧ W.cell? ⟨w2.heap.size + 1, 1, none⟩ = some (.slice (some ⟨w2.heap.size, 0, none⟩) 2 2)) ∧ (W.cell? ⟨w4.heap.size + 1, 0, none⟩ = some (.int .i64 2) ∧ W.cell? ⟨w4.heap.size + 1, 1, none⟩ = some (.slice (some ⟨w4.heap.size, 0, none⟩) 2 2)) ∧ (W.cell? ⟨w7.heap.size + 1, 0, none⟩ = some (.int .i64 2004) ∧ W.cell? ⟨w7.heap.size + 1, 1, none⟩ = some (.int .i64 2) ∧ W.cell? ⟨w7.heap.size + 1, 2, none⟩ = some (.int .i64 1000) ∧ W.cell? ⟨w7.heap.size + 1, 3, none⟩ = some (.int .i64 1000) ∧ W.cell? ⟨w7.heap.size + 1, 4, none⟩ = some (.slice (some ⟨w7.heap.size, 0, none⟩) 2 2) ∧ W.cell? ⟨w7.heap.size + 1, 5, none⟩ = some (.slice none 0 0)) from ⟨h1.two, h2.two, h3.allC⟩))
  have kA := (gA.alloc (.cells #[.int .i64 1, .slice (some ⟨w2.heap.size, 0, none⟩) 2 2, .int .i64 2, .slice (some ⟨w4.heap.size, 0, none⟩) 2 2] 27)).drew.other6 (b := w.heap.size) (by omega) (.int .i64 2004) (.int .i64 2) (.int .i64 1000) (.int .i64 1000) (.slice (some ⟨w7.heap.size, 0, none⟩) 2 2) (.slice none 0 0)
  have kM := (gM.alloc (.cells #[.int .i64 1, .slice (some ⟨w2.heap.size, 0, none⟩) 2 2, .int .i64 2, .slice (some ⟨w4.heap.size, 0, none⟩) 2 2] 27)).drew.other6 (b := w.heap.size) (by omega) (.int .i64 2004) (.int .i64 2) (.int .i64 1000) (.int .i64 1000) (.slice (some ⟨w7.heap.size, 0, none⟩) 2 2) (.slice none 0 0)
  have kB := (gB.alloc (.cells #[.int .i64 1, .slice (some ⟨w2.heap.size, 0, none⟩) 2 2, .int .i64 2, .slice (some ⟨w4.heap.size, 0, none⟩) 2 2] 27)).drew.other6 (b := w.heap.size) (by omega) (.int .i64 2004) (.int .i64 2) (.int .i64 1000) (.int .i64 1000) (.slice (some ⟨w7.heap.size, 0, none⟩) 2 2) (.slice none 0 0)
  have kN := (gN.alloc (.cells #[.int .i64 1, .slice (some ⟨w2.heap.size, 0, none⟩) 2 2, .int .i64 2, .slice (some ⟨w4.heap.size, 0, none⟩) 2 2] 27)).drew.other6 (b := w.heap.size) (by omega) (.int .i64 2004) (.int .i64 2) (.int .i64 1000) (.int .i64 1000) (.slice (some ⟨w7.heap.size, 0, none⟩) 2 2) (.slice none 0 0)
  have kC := (gC.alloc (.cells #[.int .i64 1, .slice (some ⟨w2.heap.size, 0, none⟩) 2 2, .int .i64 2, .slice (some ⟨w4.heap.size, 0, none⟩) 2 2] 27)).drew.other6 (b := w.heap.size) (by omega) (.int .i64 2004) (.int .i64 2) (.int .i64 1000) (.int .i64 1000) (.slice (some ⟨w7.heap.size, 0, none⟩) 2 2) (.slice none 0 0)
  have kP := (gP.alloc (.cells #[.int .i64 1, .slice (some ⟨w2.heap.size, 0, none⟩) 2 2, .int .i64 2, .slice (some ⟨w4.heap.size, 0, none⟩) 2 2] 27)).drew.other6 (b := w.heap.size) (by omega) (.int .i64 2004) (.int .i64 2) (.int .i64 1000) (.int .i64 1000) (.slice (some ⟨w7.heap.size, 0, none⟩) 2 2) (.slice none 0 0)
  have kR0 : Blk (w8.alloc (.cells #[.int .i64 1, .slice (some ⟨w2.heap.size, 0, none⟩) 2 2, .int .i64 2, .slice (some ⟨w4.heap.size, 0, none⟩) 2 2] 27)).drew w8.heap.size 27 (([⟨1, some ⟨w2.heap.size, 0, none⟩, 2, 2⟩, ⟨2, some ⟨w4.heap.size, 0, none⟩, 2, 2⟩] : List MR).flatMap cM) := (Blk.new w8 27 (([⟨1, some ⟨w2.heap.size, 0, none⟩, 2, 2⟩, ⟨2, some ⟨w4.heap.size, 0, none⟩, 2, 2⟩] : List MR).flatMap cM)).drew
  have kR := kR0.other6 (b := w.heap.size) (by have := gZ.lt; omega) (.int .i64 2004) (.int .i64 2) (.int .i64 1000) (.int .i64 1000) (.slice (some ⟨w7.heap.size, 0, none⟩) 2 2) (.slice none 0 0)
  clear kR0
  have hk := reb_end (bdrew (balloc hw (.cells #[.int .i64 1, .slice (some ⟨w2.heap.size, 0, none⟩) 2 2, .int .i64 2, .slice (some ⟨w4.heap.size, 0, none⟩) 2 2] 27))) (Nat.le_refl w.heap.size) (.int .i64 2004) (.int .i64 2) (.int .i64 1000) (.int .i64 1000) (.slice (some ⟨w7.heap.size, 0, none⟩) 2 2) (.slice none 0 0)
  have HZ9 := hide (gZ.alloc (.cells #[.int .i64 1, .slice (some ⟨w2.heap.size, 0, none⟩) 2 2, .int .i64 2, .slice (some ⟨w4.heap.size, 0, none⟩) 2 2] 27)).drew
  have HK := hide (And.intro (HS.out _ gM.drew gN.drew gP.drew) (And.intro (HS.out _ (gM.alloc (.cells #[.int .i64 1, .slice (some ⟨w2.heap.size, 0, none⟩) 2 2, .int .i64 2, .slice (some ⟨w4.heap.size, 0, none⟩) 2 2] 27)).drew (gN.alloc (.cells #[.int .i64 1, .slice (some ⟨w2.heap.size, 0, none⟩) 2 2, .int .i64 2, .slice (some ⟨w4.heap.size, 0, none⟩) 2 2] 27)).drew (gP.alloc (.cells #[.int .i64 1, .slice (some ⟨w2.heap.size, 0, none⟩) 2 2, .int .i64 2, .slice (some ⟨w4.heap.size, 0, none⟩) 2 2] 27)).drew) (HS.out _ kM kN kP)))
  have HE := hide (And.intro kA (And.intro kB (And.intro kC (And.intro kR hk))))
  clear kA kM kB kN kC kP kR hk gM gN gP gA gB gC gZ hw HS
  refine wp_region_held_drew (S := fun W => (W.cell? ⟨w2.heap.size + 1, 0, none⟩ = some (.int .i64 1) ∧ W.cell? ⟨w2.heap.size + 1, 1, none⟩ = some (.slice (some ⟨w2.heap.size, 0, none⟩) 2 2)) ∧ (W.cell? ⟨w4.heap.size + 1, 0, none⟩ = some (.int .i64 2) ∧ W.cell? ⟨w4.heap.size + 1, 1, none⟩ = some (.slice (some ⟨w4.heap.size, 0, none⟩) 2 2)) ∧ (W.cell? ⟨w7.heap.size + 1, 0, none⟩ = some (.int .i64 2004) ∧ W.cell? ⟨w7.heap.size + 1, 1, none⟩ = some (.int .i64 2) ∧ W.cell? ⟨w7.heap.size + 1, 2, none⟩ = some (.int .i64 1000) ∧ W.cell? ⟨w7.heap.size + 1, 3, none⟩ = some (.int .i64 1000) ∧ W.cell? ⟨w7.heap.size + 1, 4, none⟩ = some (.slice (some ⟨w7.heap.size, 0, none⟩) 2 2) ∧ W.cell? ⟨w7.heap.size + 1, 5, none⟩ = some (.slice none 0 0))) (by kernel_rfl) HK.out.1 (fun hHeld => ?_)
  refine wpAnyH_take (i := 0) (v := ?_) rfl (by kernel_rfl) (by kernel_rfl) (by kernel_rfl) (fun _ _ _ h => h) (Or.inl ⟨by rfl, ?hy1⟩) (by assumption) ?rs1
  case hy1 => (intro w hSw; (try dsimp only at hSw); go_simp; try (with_reducible rfl))
  (try simp only [Act.put, List.setIfInBounds_toArray, List.set_cons_zero, List.set_cons_succ, List.getElem_toArray, List.getElem_cons_zero, List.getElem_cons_succ])
  refine wpAnyH_take (i := 1) (v := ?_) rfl (by kernel_rfl) (by kernel_rfl) (by kernel_rfl) (fun _ _ _ h => h) (Or.inl ⟨by rfl, ?hy2⟩) (by assumption) ?rs2
  case hy2 => (intro w hSw; (try dsimp only at hSw); go_simp; try (with_reducible rfl))
  (try simp only [Act.put, List.setIfInBounds_toArray, List.set_cons_zero, List.set_cons_succ, List.getElem_toArray, List.getElem_cons_zero, List.getElem_cons_succ])
  refine wpAnyH_take (i := 3) (v := ?_) rfl (by kernel_rfl) (by kernel_rfl) (by kernel_rfl) (fun _ _ _ h => h) (Or.inl ⟨by rfl, ?hy3⟩) (by assumption) ?rs3
  case hy3 => (intro w hSw; (try dsimp only at hSw); go_simp; try (with_reducible rfl))
  (try simp only [Act.put, List.setIfInBounds_toArray, List.set_cons_zero, List.set_cons_succ, List.getElem_toArray, List.getElem_cons_zero, List.getElem_cons_succ])
  refine wpAnyH_ready (rs := [2]) (by kernel_rfl) (by simp) ?_
  refine AllReadyH.cons rfl (fun K hK => ?_) ?_
  · go_simp
    refine hK.out _ _ (by exact HK.out.2.1) (fun hHeld => ?_)
    clear hK K
    (try simp only [Act.put, List.setIfInBounds_toArray, List.set_cons_zero, List.set_cons_succ, List.getElem_toArray, List.getElem_cons_zero, List.getElem_cons_succ])
    generalize (w8.alloc (.cells #[.int .i64 1, .slice (some ⟨w2.heap.size, 0, none⟩) 2 2, .int .i64 2, .slice (some ⟨w4.heap.size, 0, none⟩) 2 2] 27)).drew = w9 at *
    have u0 := HZ9.out.free 0
    have u1 := HZ9.out.free 1
    have u2 := HZ9.out.free 2
    have u3 := HZ9.out.free 3
    have u4 := HZ9.out.free 4
    have u5 := HZ9.out.free 5
    obtain ⟨z0, z1, z2, z3, z4, z5⟩ := HZ9.out.allC
    dsimp only [zCR] at z0 z1 z2 z3 z4 z5
    have hzl := HZ9.out.lt
    refine wpAnyH_take (i := 4) (v := ?_) rfl (by kernel_rfl) (by kernel_rfl) (by kernel_rfl) (fun _ _ _ h => h) (Or.inl ⟨by rfl, ?hy4⟩) (by assumption) ?rs4
    case hy4 => (intro w hSw; (try dsimp only at hSw); go_simp; try (with_reducible rfl))
    (try simp only [Act.put, List.setIfInBounds_toArray, List.set_cons_zero, List.set_cons_succ, List.getElem_toArray, List.getElem_cons_zero, List.getElem_cons_succ])
    refine wpAnyH_ready (rs := [5]) (by kernel_rfl) (by simp) ?_
    refine AllReadyH.cons rfl (fun K hK => ?_) ?_
    · go_simp
      refine hK.out _ _ (by exact HK.out.2.2) (fun hHeld => ?_)
      clear hK K
      (try simp only [Act.put, List.setIfInBounds_toArray, List.set_cons_zero, List.set_cons_succ, List.getElem_toArray, List.getElem_cons_zero, List.getElem_cons_succ])
      refine wpAnyH_done (by kernel_rfl) ?_ _
      go_wp2_with fail
      refine bodyPost_ret (v := .tuple #[.slice (some ⟨w8.heap.size, 0, none⟩) 2 2, crV ⟨2004, 2, 1000, 1000, some ⟨w7.heap.size, 0, none⟩, 2, 2, none, 0, 0⟩]) (by simp [results, Try.results28, go_sem, z0, z1, z2, z3, z4, z5]) rfl ?_
      obtain ⟨kA, kB, kC, kR, hk⟩ := HE.out
      refine ⟨w8.heap.size, [⟨1, some ⟨w2.heap.size, 0, none⟩, 2, 2⟩, ⟨2, some ⟨w4.heap.size, 0, none⟩, 2, 2⟩], ⟨2004, 2, 1000, 1000, some ⟨w7.heap.size, 0, none⟩, 2, 2, none, 0, 0⟩, rfl, kR.slr (n := 2) (k := 2) rfl, ?_, ?_, hk⟩
      · exact Mods.cons (Mods.cons (Mods.nil _) rfl (Nat.le_refl _) (by dsimp only; omega) (kB.slr (n := 2) (k := 6) rfl)) rfl (Nat.le_refl _) (by dsimp only; omega) (kA.slr (n := 2) (k := 6) rfl)
      · exact ⟨⟨rfl, rfl, rfl, rfl⟩, ⟨Nat.le_refl _, by dsimp only; omega, kC.slr (n := 2) (k := 6) rfl⟩, ⟨Nat.le_refl _, by dsimp only; omega, SlR.nil⟩⟩
    exact AllReadyH.nil
  exact AllReadyH.nil
end Go.Proofs.Ytncdombfhcfobaa
