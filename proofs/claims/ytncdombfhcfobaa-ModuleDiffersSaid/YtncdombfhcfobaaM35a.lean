/- The law's examples: what the regions of sane that draw their order do. -/
import Derived.Test.YtncdombfhcfobaaM34
namespace Go.Proofs.Ytncdombfhcfobaa
open Go.RowKit
/-- all below n0 abides, and from there on every block of another type than t; blocks of this type keep their shape -/
structure GM (n0 : Nat) (t : TypeId) (W W' : World) : Prop where
  below : Below n0 W W'
  keep : ∀ (k : Nat) (t' : TypeId) (cs : List Value), n0 ≤ k → Blk W k t' cs → t' ≠ t → Blk W' k t' cs
  shape : ∀ (k : Nat) (cs : List Value), n0 ≤ k → Blk W k t cs → ∃ cs', Blk W' k t cs' ∧ cs'.length = cs.length
/-- a store into a block of two cells -/
def St2 (n0 : Nat) (w w' : World) : Prop := ∃ (p : Nat) (x y : Value) (cs : List Value), n0 ≤ p ∧ Blk w p 27 cs ∧ cs.length = 2 ∧ w' = (w.setCell ⟨p, 0, none⟩ x).setCell ⟨p, 1, none⟩ y
theorem slr_st2 {n0 n : Nat} {w w' : World} {A : Option Addr} {l : List It} (h : SlR w w.heap.size 6 A n (l.flatMap cI)) (hn : n ≠ 0) (hs : St2 n0 w w') : SlR w' w'.heap.size 6 A n (l.flatMap cI) := by
  obtain ⟨p, x, y, cs, hp, hb, hl, rfl⟩ := hs
  obtain ⟨b, off, rfl, hbb, hc⟩ := h.2 (Nat.pos_of_ne_zero hn)
  have hne : b ≠ p := by
    rintro rfl
    have hlen : 5 < (l.flatMap cI).length := by rw [h.1]; omega
    have := hc 5 _ (List.getElem?_eq_getElem hlen)
    rw [hb.cell] at this
    rw [List.getElem?_eq_none (by omega)] at this
    cases this
  refine ⟨h.1, fun _ => ⟨b, off, rfl, by simpa using hbb, fun j u hu => ?_⟩⟩
  have h2 := hc j u hu
  have e1 : ((w.setCell ⟨p, 0, none⟩ x).setCell ⟨p, 1, none⟩ y).heap[b]? = w.heap[b]? := (Below.heap_setCell _ ⟨p, 1, none⟩ y b hne).trans (Below.heap_setCell _ ⟨p, 0, none⟩ x b hne)
  exact (World.cell?_of_block (w := w) (a := ⟨b, off + j, none⟩) e1).trans h2
theorem st2_below {n0 : Nat} {w w' : World} (hs : St2 n0 w w') : Below n0 w w' := by
  obtain ⟨p, x, y, cs, hp, hb, hl, rfl⟩ := hs
  exact ((Below.refl n0 w).setCell (p := ⟨p, 0, none⟩) hp _).setCell (p := ⟨p, 1, none⟩) hp _
theorem st2_shape {n0 : Nat} {w w' : World} (hs : St2 n0 w w') {q : Nat} {us : List Value} (hb : Blk w q 27 us) (hl : us.length = 2) : ∃ us', Blk w' q 27 us' ∧ us'.length = 2 := by
  obtain ⟨p, x, y, cs, hp, hbp, hlp, rfl⟩ := hs
  by_cases hqp : q = p
  · subst hqp
    exact ⟨_, (hb.set 0 x).set 1 y, by simp [hl]⟩
  · exact ⟨us, (hb.other (p := ⟨p, 0, none⟩) hqp _).other (p := ⟨p, 1, none⟩) hqp _, hl⟩
theorem slr_tail {w : World} {B b o : Nat} {x y : It} (h : SlR w B 6 (some ⟨b, o, none⟩) 2 ([x, y].flatMap cI)) : SlR w B 6 (some ⟨b, o + 6, none⟩) 1 ([y].flatMap cI) := by
  obtain ⟨b', o', e, hb, hc⟩ := h.2 (by omega)
  cases e
  refine ⟨rfl, fun _ => ⟨b, o + 6, rfl, hb, fun j u hu => ?_⟩⟩
  have := hc (6 + j) u (by
    show (cI x ++ (cI y ++ []))[6 + j]? = some u
    rw [List.getElem?_append_right (by simp [cI])]
    simpa [cI] using hu)
  rw [show o + 6 + j = o + (6 + j) by omega]
  exact this
def exRows (x1 x2 x3 x4 : Nat) : List PR := [⟨some ⟨x1, 0, none⟩, 2, 2, 1000, 1000, ⟨#[100]⟩⟩, ⟨some ⟨x2, 0, none⟩, 3, 3, 1110, 1110, ⟨#[97]⟩⟩, ⟨some ⟨x3, 0, none⟩, 3, 3, 1120, 1100, ⟨#[98]⟩⟩, ⟨some ⟨x4, 0, none⟩, 2, 2, 1005, 1005, ⟨#[101]⟩⟩]
theorem Pls.nil (w : World) : Pls w [] [] := ⟨rfl, fun k h => absurd h (by simp)⟩
theorem Pls.cons {w : World} {r : PR} {p : Pl} {rs : List PR} {ps : List Pl} (h : Pls w rs ps) (h1 : r.x = p.x ∧ r.y = p.y ∧ r.text = p.text) (h2 : r.n ≤ r.c) (h3 : r.c ≤ 9223372036854775807) (h4 : SlR w w.heap.size 1 r.a r.n (p.path.flatMap cN)) : Pls w (r :: rs) (p :: ps) := by
  refine ⟨by simp [h.1], fun k a b => ?_⟩
  cases k with
  | zero => exact ⟨h1, h2, h3, h4⟩
  | succ k => exact h.2 k (by simpa using a) (by simpa using b)
theorem Pls4 {w : World} {x1 x2 x3 x4 : Nat} (h1 : Blk w x1 3 [.int .i64 2004, .int .i64 1]) (h2 : Blk w x2 3 [.int .i64 2004, .int .i64 7, .int .i64 3]) (h3 : Blk w x3 3 [.int .i64 2004, .int .i64 7, .int .i64 5]) (h4 : Blk w x4 3 [.int .i64 2004, .int .i64 9]) : Pls w (exRows x1 x2 x3 x4) exPl :=
  ((((Pls.nil w).cons ⟨rfl, rfl, rfl⟩ (Nat.le_refl 2) (show (2 : Nat) ≤ 9223372036854775807 by decide) (h4.slr rfl)).cons ⟨rfl, rfl, rfl⟩ (Nat.le_refl 3) (show (3 : Nat) ≤ 9223372036854775807 by decide) (h3.slr rfl)).cons ⟨rfl, rfl, rfl⟩ (Nat.le_refl 3) (show (3 : Nat) ≤ 9223372036854775807 by decide) (h2.slr rfl)).cons ⟨rfl, rfl, rfl⟩ (Nat.le_refl 2) (show (2 : Nat) ≤ 9223372036854775807 by decide) (h1.slr rfl)
abbrev sR7 (n0 g ba oa ca : Nat) (i : Nat) (us : List Value) (v : Value) (w : World) : Prop :=
  match i with
  | 0 => v = .slice (some ⟨g, 0, none⟩) 2 2
  | 1 => v = .pointer (some ⟨g, 0, none⟩)
  | 2 => v = .pointer (some ⟨g, 1, none⟩)
  | 3 => v = .slice (some ⟨ba, oa, none⟩) 2 ca
  | 4 => v = .pointer (some ⟨ba, oa, none⟩)
  | 5 => v = itV ⟨3, 1, 10, 10, ⟨#[97]⟩, 0⟩
  | 6 => v = itV ⟨5, 1, 20, 0, ⟨#[120]⟩, 0⟩
  | 7 => ∃ gs, v = .slice (some ⟨gs, 0, none⟩) 2 2 ∧ n0 ≤ gs ∧ Blk w gs 36 (ex5.items.flatMap cI)
  | 8 => ∃ gs, v = .agg #[.int .i64 1, .slice (some ⟨gs, 0, none⟩) 2 2] ∧ n0 ≤ gs ∧ Blk w gs 36 (ex5.items.flatMap cI)
  | 9 => ∃ p, v = .pointer (some ⟨p, 0, none⟩) ∧ n0 ≤ p ∧ ∃ cs, Blk w p 27 cs ∧ cs.length = 2
  | 10 => ∃ p gs, us = [.pointer (some ⟨p, 0, none⟩)] ∧ n0 ≤ p ∧ n0 ≤ gs ∧ Blk w p 27 [.int .i64 1, .slice (some ⟨gs, 0, none⟩) 2 2] ∧ Blk w gs 36 (ex5.items.flatMap cI)
  | _ => True
abbrev sR8 (n0 g ba oa ca gs : Nat) (i : Nat) (us : List Value) (v : Value) (w : World) : Prop :=
  match i with
  | 0 => v = .slice (some ⟨g, 0, none⟩) 2 2
  | 1 => v = .pointer (some ⟨g, 0, none⟩)
  | 2 => v = mrV ⟨1, some ⟨ba, oa, none⟩, 2, ca⟩
  | 3 => v = mrV ⟨1, some ⟨ba, oa + 6, none⟩, 1, ca - 1⟩
  | 4 => v = mrV ⟨1, some ⟨gs, 0, none⟩, 2, 2⟩
  | 5 => ∃ Am cm Ag cg, v = .tuple #[.agg #[.int .i64 1, .slice Am 1 cm], .slice Ag 0 cg, .int .i64 0] ∧ 1 ≤ cm ∧ cm ≤ 9223372036854775807 ∧ SlR w w.heap.size 6 Am 1 (exIx.flatMap cI)
  | 6 => ∃ Am cm Ag cg, v = .tuple #[.agg #[.int .i64 1, .slice Am 1 cm], .slice Ag 0 cg, .int .i64 0] ∧ 1 ≤ cm ∧ cm ≤ 9223372036854775807 ∧ SlR w w.heap.size 6 Am 1 (exIx.flatMap cI)
  | 7 => ∃ Am cm, v = .agg #[.int .i64 1, .slice Am 1 cm] ∧ 1 ≤ cm ∧ cm ≤ 9223372036854775807 ∧ SlR w w.heap.size 6 Am 1 (exIx.flatMap cI)
  | 8 => ∃ Ag cg, v = .slice Ag 0 cg
  | 9 => v = .int .i64 0
  | 10 => ∃ p, v = .pointer (some ⟨p, 0, none⟩) ∧ n0 ≤ p ∧ ∃ cs, Blk w p 27 cs ∧ cs.length = 2
  | 11 => ∃ p Am cm, us = [.pointer (some ⟨p, 0, none⟩)] ∧ Blk w p 27 [.int .i64 1, .slice Am 1 cm] ∧ 1 ≤ cm ∧ cm ≤ 9223372036854775807 ∧ SlR w w.heap.size 6 Am 1 (exIx.flatMap cI)
  | 12 => ∃ Ag cg, v = .slice Ag 0 cg
  | 13 => v = .int .i64 0
  | _ => True
abbrev sR12 (g ba oa ca p12 gs : Nat) (i : Nat) (_ : List Value) (v : Value) (w : World) : Prop :=
  match i with
  | 0 => v = .slice (some ⟨g, 0, none⟩) 2 2
  | 1 => v = .pointer (some ⟨g, 0, none⟩)
  | 2 => v = .pointer (some ⟨g, 1, none⟩)
  | 3 => v = .slice (some ⟨ba, oa, none⟩) 2 ca
  | 4 => v = .pointer (some ⟨p12, 1, none⟩)
  | 5 => v = .slice (some ⟨gs, 0, none⟩) 2 2
  | 6 => v = .slice (some ⟨gs, 6, none⟩) 1 1
  | 7 => ∃ A c' B d', v = .tuple #[.slice A 1 c', .slice B 1 d'] ∧ (1 ≤ c' ∧ c' ≤ maxLen ∧ SlR w w.heap.size 6 A 1 (exIx.flatMap cI)) ∧ (1 ≤ d' ∧ d' ≤ maxLen ∧ SlR w w.heap.size 1 B 1 ([(3 : Int)].flatMap cN))
  | 8 => ∃ A c' B d', v = .tuple #[.slice A 1 c', .slice B 1 d'] ∧ (1 ≤ c' ∧ c' ≤ maxLen ∧ SlR w w.heap.size 6 A 1 (exIx.flatMap cI)) ∧ (1 ≤ d' ∧ d' ≤ maxLen ∧ SlR w w.heap.size 1 B 1 ([(3 : Int)].flatMap cN))
  | 9 => ∃ A c', v = .slice A 1 c' ∧ (1 ≤ c' ∧ c' ≤ maxLen ∧ SlR w w.heap.size 6 A 1 (exIx.flatMap cI))
  | 10 => ∃ B d', v = .slice B 1 d' ∧ (1 ≤ d' ∧ d' ≤ maxLen ∧ SlR w w.heap.size 1 B 1 ([(3 : Int)].flatMap cN))
  | 11 => ∃ A c', v = .slice A 1 c' ∧ (1 ≤ c' ∧ c' ≤ maxLen ∧ SlR w w.heap.size 6 A 1 (exIx.flatMap cI))
  | 12 => ∃ B d', v = .slice B 1 d' ∧ (1 ≤ d' ∧ d' ≤ maxLen ∧ SlR w w.heap.size 1 B 1 ([(3 : Int)].flatMap cN))
  | _ => True
abbrev sR15 (g bb ob cb : Nat) (A3 A4 : Option Addr) (c3 n4 c4 : Nat) (i : Nat) (_ : List Value) (v : Value) (w : World) : Prop :=
  match i with
  | 0 => v = .slice A3 exIt.length c3
  | 1 => v = itV ⟨1, 1, 0, 0, ⟨#[100]⟩, 0⟩
  | 2 => v = .slice (some ⟨g, 0, none⟩) 2 2
  | 3 => v = .pointer (some ⟨g, 2, none⟩)
  | 4 => v = .pointer (some ⟨g, 3, none⟩)
  | 5 => v = .slice (some ⟨bb, ob, none⟩) 2 cb
  | 6 => v = .pointer (some ⟨bb, ob + 6, none⟩)
  | 7 => v = itV ⟨7, 2, 100, 100, ⟨#[]⟩, 1⟩
  | 8 => v = itV ⟨9, 1, 5, 5, ⟨#[101]⟩, 0⟩
  | 9 => ∃ gx, v = .slice (some ⟨gx, 0, none⟩) 3 3 ∧ Blk w gx 36 (exIt.flatMap cI)
  | 10 => v = .bool true
  | 11 => v = .bool true
  | 12 => v = .slice A4 n4 c4
  | 13 => ∃ gx, v = .slice (some ⟨gx, 0, none⟩) 2 2 ∧ Blk w gx 3 [.int .i64 2004, .int .i64 1]
  | 14 => ∃ gx, v = prV ⟨some ⟨gx, 0, none⟩, 2, 2, 1000, 1000, ⟨#[100]⟩⟩ ∧ Blk w gx 3 [.int .i64 2004, .int .i64 1]
  | 15 => ∃ gx, v = .slice (some ⟨gx, 0, none⟩) 3 3 ∧ Blk w gx 3 [.int .i64 2004, .int .i64 7, .int .i64 3]
  | 16 => ∃ gx, v = prV ⟨some ⟨gx, 0, none⟩, 3, 3, 1110, 1110, ⟨#[97]⟩⟩ ∧ Blk w gx 3 [.int .i64 2004, .int .i64 7, .int .i64 3]
  | 17 => ∃ gx, v = .slice (some ⟨gx, 0, none⟩) 3 3 ∧ Blk w gx 3 [.int .i64 2004, .int .i64 7, .int .i64 5]
  | 18 => ∃ gx, v = prV ⟨some ⟨gx, 0, none⟩, 3, 3, 1120, 1100, ⟨#[98]⟩⟩ ∧ Blk w gx 3 [.int .i64 2004, .int .i64 7, .int .i64 5]
  | 19 => ∃ gx, v = .slice (some ⟨gx, 0, none⟩) 2 2 ∧ Blk w gx 3 [.int .i64 2004, .int .i64 9]
  | 20 => ∃ gx, v = prV ⟨some ⟨gx, 0, none⟩, 2, 2, 1005, 1005, ⟨#[101]⟩⟩ ∧ Blk w gx 3 [.int .i64 2004, .int .i64 9]
  | 21 => ∃ gx x1 x2 x3 x4, v = .slice (some ⟨gx, 0, none⟩) 4 4 ∧ Blk w gx 62 ((exRows x1 x2 x3 x4).flatMap cP) ∧ Pls w (exRows x1 x2 x3 x4) exPl
  | 22 => v = .bool true
  | 23 => v = .bool true
  | 24 => v = .bool true
  | _ => True
abbrev sR16 (p : Nat) (Aq : Option Addr) (cq : Nat) (Bq : Option Addr) (dq : Nat) (A7 : Option Addr) (c7 : Nat) (i : Nat) (_ : List Value) (v : Value) (w : World) : Prop :=
  match i with
  | 0 => v = .pointer (some ⟨p, 4, none⟩)
  | 1 => v = .slice Aq 1 cq
  | 2 => v = itV ⟨9, 1, 5, 5, ⟨#[101]⟩, 0⟩
  | 3 => ∃ gx, v = .slice (some ⟨gx, 0, none⟩) 1 1 ∧ Blk w gx 36 (exRb.changes.flatMap cI)
  | 4 => v = .bool true
  | 5 => v = .bool true
  | 6 => v = .pointer (some ⟨p, 5, none⟩)
  | 7 => v = .slice Bq 0 dq
  | 8 => v = .int .i64 0
  | 9 => v = .bool true
  | 10 => v = .bool true
  | 11 => v = .bool true
  | 12 => v = .pointer (some ⟨p, 0, none⟩)
  | 13 => v = .int .i64 2004
  | 14 => v = .bool true
  | 15 => v = .bool true
  | 16 => v = .bool true
  | 17 => v = .slice A7 1 c7
  | 18 => ∃ gx, v = .slice (some ⟨gx, 0, none⟩) 1 1 ∧ Blk w gx 3 [.int .i64 1]
  | 19 => v = .bool true
  | 20 => v = .bool true
  | 21 => v = .bool true
  | _ => True
abbrev sR17 (p13 : Nat) (Am : Option Addr) (cm : Nat) (Ag : Option Addr) (cg : Nat) (i : Nat) (_ : List Value) (v : Value) (w : World) : Prop :=
  match i with
  | 0 => v = .pointer (some ⟨p13, 1, none⟩)
  | 1 => v = .slice Am 1 cm
  | 2 => v = itV ⟨5, 1, 20, 0, ⟨#[120]⟩, 0⟩
  | 3 => ∃ gx, v = .slice (some ⟨gx, 0, none⟩) 1 1 ∧ Blk w gx 36 (exIx.flatMap cI)
  | 4 => v = .bool true
  | 5 => v = .bool true
  | 6 => v = .pointer (some ⟨p13, 0, none⟩)
  | 7 => v = .int .i64 1
  | 8 => v = .bool true
  | 9 => v = .bool true
  | 10 => v = .bool true
  | 11 => v = .slice Ag 0 cg
  | 12 => v = .int .i64 0
  | 13 => v = .bool true
  | 14 => v = .bool true
  | 15 => v = .bool true
  | _ => True
theorem calls_b {P : Program} {f : FuncId} {args : Array Value} {W : World} {b b' : Bool} (h : Calls P f args W fun e w' => e = .returned (.bool b) ∧ Below W.heap.size W w') (e : b = b') : Calls P f args W fun e w' => e = .returned (.bool b') ∧ Below W.heap.size W w' := e ▸ h
theorem slr_tailM {w : World} {B b o : Nat} {x y : MR} (h : SlR w B 2 (some ⟨b, o, none⟩) 2 ([x, y].flatMap cM)) : SlR w B 2 (some ⟨b, o + 2, none⟩) 1 ([y].flatMap cM) := by
  obtain ⟨b', o', e, hb, hc⟩ := h.2 (by omega)
  cases e
  refine ⟨rfl, fun _ => ⟨b, o + 2, rfl, hb, fun j u hu => ?_⟩⟩
  have := hc (2 + j) u (by
    show (cM x ++ (cM y ++ []))[2 + j]? = some u
    rw [List.getElem?_append_right (by simp [cM])]
    simpa [cM] using hu)
  rw [show o + 2 + j = o + (2 + j) by omega]
  exact this
set_option linter.unusedVariables false in
abbrev sR19 (g ba oa ca bb ob cb bw ow cw n1 n5 n7 : Nat) (r : CR) (aw2 : Option Addr) (cw2 : Nat) (Aq : Option Addr) (cq : Nat) (Bq : Option Addr) (dq : Nat) (i : Nat) (v : Value) : Prop :=
  match i with
  | 0 => v = .bool true
  | 1 => v = .bool true
  | 2 => v = .bool true
  | 3 => v = .bool true
  | 4 => v = .bool true
  | 5 => v = .bool true
  | 6 => v = .bool true
  | 7 => v = .bool true
  | 8 => v = .bool true
  | 9 => v = .bool true
  | 10 => v = .bool true
  | 11 => v = .slice (some ⟨g, 0, none⟩) 2 2
  | 12 => v = .bool true
  | 13 => v = .bool true
  | 14 => v = .bool true
  | 15 => v = .slice (some ⟨g, 0, none⟩) 2 2
  | 16 => v = .slice (some ⟨g, 2, none⟩) 1 1
  | 17 => v = .bool false
  | 18 => v = .bool true
  | 19 => v = .bool true
  | 20 => v = .bool true
  | 21 => v = .slice (some ⟨g, 0, none⟩) 2 2
  | 22 => v = .pointer (some ⟨g, 2, none⟩)
  | 23 => v = mrV ⟨2, some ⟨bb, ob, none⟩, 2, cb⟩
  | 24 => v = .bool true
  | 25 => v = .bool true
  | 26 => v = .bool true
  | 27 => v = mrV ⟨0, none, 0, 0⟩
  | 28 => v = .bool false
  | 29 => v = .bool true
  | 30 => v = .bool true
  | 31 => v = .bool true
  | 32 => v = .slice (some ⟨g, 0, none⟩) 2 2
  | 33 => v = crV r
  | 34 => v = .bool true
  | 35 => v = .bool true
  | 36 => v = .bool true
  | 37 => v = crV r
  | 38 => v = .bool true
  | 39 => v = .bool true
  | 40 => v = .bool true
  | 41 => v = crV zCR
  | 42 => v = .bool false
  | 43 => v = .bool true
  | 44 => v = .bool true
  | 45 => v = .bool true
  | 46 => v = .slice (some ⟨bw, ow, none⟩) 2 cw
  | 47 => v = .pointer (some ⟨bw, ow + 2, none⟩)
  | 48 => v = mrV ⟨2, aw2, 1, cw2⟩
  | 49 => v = mrV ⟨2, some ⟨n5, 0, none⟩, 1, 1⟩
  | 50 => v = .bool true
  | 51 => v = .bool true
  | 52 => v = .bool true
  | 53 => v = .slice (some ⟨g, 0, none⟩) 2 2
  | 54 => v = .pointer (some ⟨g, 0, none⟩)
  | 55 => v = mrV ⟨1, some ⟨ba, oa, none⟩, 2, ca⟩
  | 56 => v = .slice (some ⟨g, 0, none⟩) 2 2
  | 57 => v = .pointer (some ⟨g, 2, none⟩)
  | 58 => v = mrV ⟨2, some ⟨bb, ob, none⟩, 2, cb⟩
  | 59 => v = .bool false
  | 60 => v = .bool true
  | 61 => v = .bool true
  | 62 => v = .bool true
  | 63 => v = crV r
  | 64 => v = crV r
  | 65 => v = .bool true
  | 66 => v = .bool true
  | 67 => v = .bool true
  | 68 => v = crV r
  | 69 => v = crV ⟨2004, 2, 1000, 1000, Aq, 1, cq, Bq, 0, dq⟩
  | 70 => v = .bool false
  | 71 => v = .bool true
  | 72 => v = .bool true
  | 73 => v = .bool true
  | _ => True
theorem ex_rows {w : World} {B : Nat} {A : Option Addr} {rows : List MR} (hs : SlR w B 2 A 2 (rows.flatMap cM)) (hm : Mods w rows exMs) :
    ∃ ba oa ca bb ob cb, rows = [⟨1, some ⟨ba, oa, none⟩, 2, ca⟩, ⟨2, some ⟨bb, ob, none⟩, 2, cb⟩] ∧ (2 ≤ ca ∧ ca ≤ 9223372036854775807) ∧ (2 ≤ cb ∧ cb ≤ 9223372036854775807) := by
  have hl := hs.lenm
  match rows, hl with
  | [ra, rb], _ =>
    obtain ⟨e1, l1, l2, s1⟩ := hm.2 0 (by simp) (by decide)
    obtain ⟨e2, k1, k2, s2⟩ := hm.2 1 (by simp) (by decide)
    simp only [List.getElem_cons_zero, List.getElem_cons_succ] at e1 l1 l2 s1 e2 k1 k2 s2
    have n1 : ra.n = 2 := (s1.lenI).symm
    have n2 : rb.n = 2 := (s2.lenI).symm
    obtain ⟨ba, oa, h1, _⟩ := s1.2 (by omega)
    obtain ⟨bb, ob, h2, _⟩ := s2.2 (by omega)
    obtain ⟨i1, a1, m1, c1⟩ := ra
    obtain ⟨i2, a2, m2, c2⟩ := rb
    simp only at e1 l1 l2 e2 k1 k2 n1 n2 h1 h2
    subst n1 n2 h1 h2
    exact ⟨ba, oa, c1, bb, ob, c2, by rw [e1, e2]; rfl, ⟨l1, l2⟩, ⟨k1, k2⟩⟩
/-- cells of the example's modules -/
structure ExC (W : World) (g ba oa ca bb ob cb : Nat) : Prop where
  c0 : W.cell? ⟨g, 0, none⟩ = some (.int .i64 1)
  c1 : W.cell? ⟨g, 1, none⟩ = some (.slice (some ⟨ba, oa, none⟩) 2 ca)
  c2 : W.cell? ⟨g, 2, none⟩ = some (.int .i64 2)
  c3 : W.cell? ⟨g, 3, none⟩ = some (.slice (some ⟨bb, ob, none⟩) 2 cb)
  i0 : ∀ j u, (cI ⟨3, 1, 10, 10, ⟨#[97]⟩, 0⟩)[j]? = some u → W.cell? ⟨ba, oa + j, none⟩ = some u
  k0 : ∀ j u, (cI ⟨7, 2, 100, 100, ⟨#[]⟩, 1⟩)[j]? = some u → W.cell? ⟨bb, ob + 6 + j, none⟩ = some u
theorem ex_cells {w : World} {g ba oa ca bb ob cb : Nat} (hs : SlR w w.heap.size 2 (some ⟨g, 0, none⟩) 2 ([⟨1, some ⟨ba, oa, none⟩, 2, ca⟩, ⟨2, some ⟨bb, ob, none⟩, 2, cb⟩].flatMap cM)) (hm : Mods w [⟨1, some ⟨ba, oa, none⟩, 2, ca⟩, ⟨2, some ⟨bb, ob, none⟩, 2, cb⟩] exMs) : ExC w g ba oa ca bb ob cb := by
  obtain ⟨b, off, e, _, hc⟩ := hs.2 (by omega)
  cases e
  obtain ⟨_, _, _, s1⟩ := hm.2 0 (by simp) (by decide)
  obtain ⟨_, _, _, s2⟩ := hm.2 1 (by simp) (by decide)
  obtain ⟨b1, o1, e1, _, h1⟩ := s1.2 (by simp)
  obtain ⟨b2, o2, e2, _, h2⟩ := s2.2 (by simp)
  cases e1
  cases e2
  refine ⟨by simpa using hc 0 _ rfl, by simpa using hc 1 _ rfl, by simpa using hc 2 _ rfl, by simpa using hc 3 _ rfl, fun j u hj => ?_, fun j u hj => ?_⟩
  · refine h1 j u ?_
    have : j < 6 := by have := (List.getElem?_eq_some_iff.1 hj).1; simpa [cI] using this
    show (cI _ ++ _)[j]? = some u
    rw [List.getElem?_append_left (by simpa [cI] using this)]
    exact hj
  · have h := h2 (6 + j) u (by
      show (cI _ ++ (cI _ ++ []))[6 + j]? = some u
      rw [List.getElem?_append_right (by simp [cI])]
      simpa [cI] using hj)
    rw [show ob + 6 + j = ob + (6 + j) by omega]
    exact h
/-- the operations of region n -/
def findR (n : Nat) : Code → Option (Array Oper)
  | .region id ops _ => if id == n then some ops else none
  | .seq a b => match findR n a with
    | some c => some c
    | none => findR n b
  | .cond _ a b => match findR n a with
    | some c => some c
    | none => findR n b
  | .block _ c => findR n c
  | .scope c => findR n c
  | _ => none
noncomputable def regL (n : Nat) : List Oper := ((Try.f9.body.bind (findR n)).getD #[]).toList
set_option linter.unusedSimpArgs false in
set_option linter.unusedVariables false in
set_option maxRecDepth 100000 in
set_option maxHeartbeats 16000000 in
theorem sane_7 (w9 : World) (g ba oa ca bb ob cb : Nat) (Q : Exit → Act → World → Prop) (hExC : ∀ (w : World), Below w9.heap.size w9 w → ExC w g ba oa ca bb ob cb) (l : List Oper) (hl : regL 7 = l) :
    StepsR Try.prog [some 61, some 62, some 63, some 64, some 65, some 66, some 67, some 68, some 69, some 12, none] [(1, .slice (some ⟨g, 0, none⟩) 2 2)] Q (fun k w w' => if k = 10 then GM w9.heap.size 27 w w' else Below w.heap.size w w') (fun w => Below w9.heap.size w9 w) (fun i => if i = 10 then [9] else []) (sR7 w9.heap.size g ba oa ca) l 0 := by
  subst hl
  conv => arg 9; whnf
  have hbI : ∀ {w w' : World}, Below w9.heap.size w9 w → Below w.heap.size w w' → Below w9.heap.size w9 w' := fun h k => bthen h k
  refine ⟨fun b vals y w hI hf hd K hK => ?_, ?_⟩
  · skip
    obtain ⟨f1, -⟩ := hf
    replace f1 : b.tmps[1]? = _ := f1
    go_simp
    exact hK.out _ _ ⟨rfl, Below.refl _ _, hI⟩
  refine ⟨fun b vals y w hI hf hd K hK => ?_, ?_⟩
  · skip
    obtain ⟨s0, r0, y0⟩ := hd 0 (by decide)
    clear y0
    replace s0 : b.tmps[61]? = some (vals 0) := s0
    rw [show vals 0 = _ from r0] at s0
    go_simp
    exact hK.out _ _ ⟨rfl, Below.refl _ _, hI⟩
  refine ⟨fun b vals y w hI hf hd K hK => ?_, ?_⟩
  · skip
    obtain ⟨s1, r1, y1⟩ := hd 1 (by decide)
    clear y1
    replace s1 : b.tmps[62]? = some (vals 1) := s1
    rw [show vals 1 = _ from r1] at s1
    go_simp
    exact hK.out _ _ ⟨rfl, Below.refl _ _, hI⟩
  refine ⟨fun b vals y w hI hf hd K hK => ?_, ?_⟩
  · skip
    obtain ⟨s2, r2, y2⟩ := hd 2 (by decide)
    clear y2
    replace s2 : b.tmps[63]? = some (vals 2) := s2
    rw [show vals 2 = _ from r2] at s2
    have z := (hExC w hI).c1
    go_simp
    exact hK.out _ _ ⟨rfl, Below.refl _ _, hI⟩
  refine ⟨fun b vals y w hI hf hd K hK => ?_, ?_⟩
  · skip
    obtain ⟨s3, r3, y3⟩ := hd 3 (by decide)
    clear y3
    replace s3 : b.tmps[64]? = some (vals 3) := s3
    rw [show vals 3 = _ from r3] at s3
    go_simp
    exact hK.out _ _ ⟨rfl, Below.refl _ _, hI⟩
  refine ⟨fun b vals y w hI hf hd K hK => ?_, ?_⟩
  · skip
    obtain ⟨s4, r4, y4⟩ := hd 4 (by decide)
    clear y4
    replace s4 : b.tmps[65]? = some (vals 4) := s4
    rw [show vals 4 = _ from r4] at s4
    have z := (hExC w hI).i0
    have z0 := z 0 _ rfl
    have z1 := z 1 _ rfl
    have z2 := z 2 _ rfl
    have z3 := z 3 _ rfl
    have z4 := z 4 _ rfl
    have z5 := z 5 _ rfl
    clear z
    simp only [Nat.add_zero] at z0
    go_simp
    exact hK.out _ _ ⟨rfl, Below.refl _ _, hI⟩
  refine ⟨fun b vals y w hI hf hd K hK => ?_, ?_⟩
  · skip
    go_simp
    refine (c_box 5 20 0 ⟨#[120]⟩ w).mono ?_
    rintro e w' ⟨rfl, hb'⟩
    exact hK.out _ _ ⟨rfl, hb', hbI hI hb'⟩
  refine ⟨fun b vals y w hI hf hd K hK => ?_, ?_⟩
  · skip
    obtain ⟨s5, r5, y5⟩ := hd 5 (by decide)
    clear y5
    replace s5 : b.tmps[66]? = some (vals 5) := s5
    rw [show vals 5 = _ from r5] at s5
    obtain ⟨s6, r6, y6⟩ := hd 6 (by decide)
    clear y6
    replace s6 : b.tmps[67]? = some (vals 6) := s6
    rw [show vals 6 = _ from r6] at s6
    go_simp
    exact hK.out _ _ ⟨⟨w.heap.size, rfl, hI.size, Blk.new w 36 (ex5.items.flatMap cI)⟩, balloc (Below.refl _ _) _, hbI hI (balloc (Below.refl _ _) _)⟩
  refine ⟨fun b vals y w hI hf hd K hK => ?_, ?_⟩
  · skip
    obtain ⟨s7, r7, y7⟩ := hd 7 (by decide)
    clear y7
    replace s7 : b.tmps[68]? = some (vals 7) := s7
    obtain ⟨gs, h7, h7a, h7b⟩ := r7
    rw [h7] at s7
    go_simp
    exact hK.out _ _ ⟨⟨gs, rfl, h7a, h7b⟩, Below.refl _ _, hI⟩
  refine ⟨fun b vals y w hI hf hd K hK => ?_, ?_⟩
  · skip
    go_simp
    exact hK.out _ _ ⟨⟨w.heap.size, rfl, hI.size, _, Blk.new w 27 [.int .i64 0, .slice none 0 0], rfl⟩, balloc (Below.refl _ _) _, hbI hI (balloc (Below.refl _ _) _)⟩
  refine ⟨fun b vals y w hI hf hd K hK => ?_, ?_⟩
  · skip
    obtain ⟨s9, r9, y9⟩ := hd 9 (by decide)
    clear y9
    replace s9 : b.tmps[12]? = some (vals 9) := s9
    obtain ⟨p, h9, h9a, cs, h9b, h9c⟩ := r9
    rw [h9] at s9
    obtain ⟨s8, r8, y8⟩ := hd 8 (by decide)
    clear y8
    replace s8 : b.tmps[69]? = some (vals 8) := s8
    obtain ⟨gs, h8, h8a, h8b⟩ := r8
    rw [h8] at s8
    obtain ⟨x, y, rfl⟩ : ∃ x y, cs = [x, y] := by
      match cs, h9c with
      | [x, y], _ => exact ⟨x, y, rfl⟩
    obtain ⟨k0, k1, k2, k3⟩ := h9b.all2
    have hpl := h9b.lt
    go_simp
    have hfin := (h9b.set 0 (.int .i64 1)).set 1 (.slice (some ⟨gs, 0, none⟩) 2 2)
    simp only [List.set_cons_zero, List.set_cons_succ] at hfin
    have hoth : ∀ (q : Nat) (t' : TypeId) (us : List Value), Blk w q t' us → q ≠ p → Blk ((w.setCell ⟨p, 0, none⟩ (.int .i64 1)).setCell ⟨p, 1, none⟩ (.slice (some ⟨gs, 0, none⟩) 2 2)) q t' us := fun q t' us hb hq => (hb.other (p := ⟨p, 0, none⟩) hq _).other (p := ⟨p, 1, none⟩) hq _
    have hbw : ∀ B, B ≤ p → Below B w ((w.setCell ⟨p, 0, none⟩ (.int .i64 1)).setCell ⟨p, 1, none⟩ (.slice (some ⟨gs, 0, none⟩) 2 2)) := fun B hB => ((Below.refl B w).setCell (p := ⟨p, 0, none⟩) hB _).setCell (p := ⟨p, 1, none⟩) hB _
    refine hK.out undef _ ⟨⟨p, gs, by show [vals 9] = _; rw [h9], h9a, h8a, hfin, hoth _ _ _ h8b (h8b.ne h9b)⟩, ⟨hbw _ h9a, fun q t' us hq hb ht => hoth q t' us hb (hb.ne h9b ht), fun q us hq hb => ?_⟩, hI.trans (hbw _ h9a)⟩
    by_cases hqp : q = p
    · subst hqp
      refine ⟨_, hfin, ?_⟩
      unfold Blk at hb h9b
      rw [hb] at h9b
      injection h9b with h9b
      injection h9b with h1
      have := congrArg Array.toList h1
      simp only [] at this
      rw [this]
      rfl
    · exact ⟨us, hoth q _ us hb hqp, rfl⟩
  exact trivial
set_option linter.unusedSimpArgs false in
set_option linter.unusedVariables false in
set_option maxRecDepth 100000 in
set_option maxHeartbeats 16000000 in
theorem sane_8 (w8 w10 : World) (g ba oa ca bb ob cb : Nat) (p12 gs : Nat) (Q : Exit → Act → World → Prop) (hExC : ∀ (w : World), Below w10.heap.size w10 w → ExC w g ba oa ca bb ob cb) (HT : Hid (∀ W, Below w10.heap.size w10 W → Blk W w8.heap.size 27 [.int .i64 1, .slice (some ⟨ba, oa + 6, none⟩) 1 (ca - 1)])) (HP : Hid (∀ W, Below w10.heap.size w10 W → Blk W p12 27 [.int .i64 1, .slice (some ⟨gs, 0, none⟩) 2 2] ∧ Blk W gs 36 (ex5.items.flatMap cI))) (HCM : Hid (∀ W, Below w10.heap.size w10 W → Calls Try.prog 11 #[mrV ⟨1, some ⟨ba, oa, none⟩, 2, ca⟩, mrV ⟨1, some ⟨ba, oa + 6, none⟩, 1, ca - 1⟩, mrV ⟨1, some ⟨gs, 0, none⟩, 2, 2⟩] W (MergePost ⟨1, ex1⟩ ex35 ex5 W))) (l : List Oper) (hl : regL 8 = l) :
    StepsR Try.prog [some 71, some 72, some 73, some 74, some 75, some 76, some 70, some 77, some 78, some 79, some 13, none, some 14, some 15] [(1, .slice (some ⟨g, 0, none⟩) 2 2), (11, .pointer (some ⟨w8.heap.size, 0, none⟩)), (12, .pointer (some ⟨p12, 0, none⟩))] Q (fun k w w' => if k = 11 then St2 w10.heap.size w w' else Below w.heap.size w w') (fun w => Below w10.heap.size w10 w) (fun i => if i = 11 then [10] else []) (sR8 w10.heap.size g ba oa ca gs) l 0 := by
  subst hl
  conv => arg 9; whnf
  have hbI : ∀ {w w' : World}, Below w10.heap.size w10 w → Below w.heap.size w w' → Below w10.heap.size w10 w' := fun h k => bthen h k
  refine ⟨fun b vals y w hI hf hd K hK => ?_, ?_⟩
  · skip
    obtain ⟨f1, f11, f12, -⟩ := hf
    replace f1 : b.tmps[1]? = _ := f1
    replace f11 : b.tmps[11]? = _ := f11
    replace f12 : b.tmps[12]? = _ := f12
    go_simp
    exact hK.out _ _ ⟨rfl, Below.refl _ _, hI⟩
  refine ⟨fun b vals y w hI hf hd K hK => ?_, ?_⟩
  · skip
    obtain ⟨s0, r0, y0⟩ := hd 0 (by decide)
    clear y0
    replace s0 : b.tmps[71]? = some (vals 0) := s0
    rw [show vals 0 = _ from r0] at s0
    go_simp
    exact hK.out _ _ ⟨rfl, Below.refl _ _, hI⟩
  refine ⟨fun b vals y w hI hf hd K hK => ?_, ?_⟩
  · skip
    obtain ⟨s1, r1, y1⟩ := hd 1 (by decide)
    clear y1
    replace s1 : b.tmps[72]? = some (vals 1) := s1
    rw [show vals 1 = _ from r1] at s1
    have z := hExC w hI
    have z0 := z.c0
    have z1 := z.c1
    clear z
    go_simp
    exact hK.out _ _ ⟨rfl, Below.refl _ _, hI⟩
  refine ⟨fun b vals y w hI hf hd K hK => ?_, ?_⟩
  · skip
    obtain ⟨f1, f11, f12, -⟩ := hf
    replace f1 : b.tmps[1]? = _ := f1
    replace f11 : b.tmps[11]? = _ := f11
    replace f12 : b.tmps[12]? = _ := f12
    have z := HT.out w hI
    obtain ⟨z0, z1⟩ := z.two
    have zl := z.lt
    go_simp
    exact hK.out _ _ ⟨rfl, Below.refl _ _, hI⟩
  refine ⟨fun b vals y w hI hf hd K hK => ?_, ?_⟩
  · skip
    obtain ⟨f1, f11, f12, -⟩ := hf
    replace f1 : b.tmps[1]? = _ := f1
    replace f11 : b.tmps[11]? = _ := f11
    replace f12 : b.tmps[12]? = _ := f12
    have z := HP.out w hI
    obtain ⟨z0, z1⟩ := z.1.two
    have zl := z.1.lt
    go_simp
    exact hK.out _ _ ⟨rfl, Below.refl _ _, hI⟩
  refine ⟨fun b vals y w hI hf hd K hK => ?_, ?_⟩
  · skip
    obtain ⟨s2, r2, y2⟩ := hd 2 (by decide)
    clear y2
    replace s2 : b.tmps[73]? = some (vals 2) := s2
    rw [show vals 2 = _ from r2] at s2
    obtain ⟨s3, r3, y3⟩ := hd 3 (by decide)
    clear y3
    replace s3 : b.tmps[74]? = some (vals 3) := s3
    rw [show vals 3 = _ from r3] at s3
    obtain ⟨s4, r4, y4⟩ := hd 4 (by decide)
    clear y4
    replace s4 : b.tmps[75]? = some (vals 4) := s4
    rw [show vals 4 = _ from r4] at s4
    have zc := HCM.out w hI
    go_simp
    refine zc.mono ?_
    rintro e w' ⟨hb', ⟨hv, -⟩ | ⟨-, s, hs, ⟨hv, -⟩ | ⟨-, Am, nm, cm, v, rfl, q1, q2, q3, q4⟩⟩⟩
    · rw [ex_mB] at hv; cases hv
    · rw [ex_mM hs] at hv
      rw [ex_mOk] at hv; cases hv
    obtain rfl := ex_mM hs
    rw [ex_mG] at q4
    obtain ⟨Ag, cg, rfl, -, -, -⟩ := SlR.of_own q4
    have hnm : nm = 1 := (q3.lenI).symm
    subst hnm
    exact hK.out _ _ ⟨⟨Am, cm, Ag, cg, rfl, q1, q2, q3⟩, hb', hbI hI hb'⟩
  refine ⟨fun b vals y w hI hf hd K hK => ?_, ?_⟩
  · skip
    obtain ⟨s5, r5, y5⟩ := hd 5 (by decide)
    clear y5
    replace s5 : b.tmps[76]? = some (vals 5) := s5
    obtain ⟨Am, cm, Ag, cg, h5, h5a, h5b, h5c⟩ := r5
    rw [h5] at s5
    go_simp
    exact hK.out _ _ ⟨⟨Am, cm, Ag, cg, rfl, h5a, h5b, h5c⟩, Below.refl _ _, hI⟩
  refine ⟨fun b vals y w hI hf hd K hK => ?_, ?_⟩
  · skip
    obtain ⟨s6, r6, y6⟩ := hd 6 (by decide)
    clear y6
    replace s6 : b.tmps[70]? = some (vals 6) := s6
    obtain ⟨Am, cm, Ag, cg, h6, h6a, h6b, h6c⟩ := r6
    rw [h6] at s6
    go_simp
    exact hK.out _ _ ⟨⟨Am, cm, rfl, h6a, h6b, h6c⟩, Below.refl _ _, hI⟩
  refine ⟨fun b vals y w hI hf hd K hK => ?_, ?_⟩
  · skip
    obtain ⟨s6, r6, y6⟩ := hd 6 (by decide)
    clear y6
    replace s6 : b.tmps[70]? = some (vals 6) := s6
    obtain ⟨Am, cm, Ag, cg, h6, h6a, h6b, h6c⟩ := r6
    rw [h6] at s6
    go_simp
    exact hK.out _ _ ⟨⟨Ag, cg, rfl⟩, Below.refl _ _, hI⟩
  refine ⟨fun b vals y w hI hf hd K hK => ?_, ?_⟩
  · skip
    obtain ⟨s6, r6, y6⟩ := hd 6 (by decide)
    clear y6
    replace s6 : b.tmps[70]? = some (vals 6) := s6
    obtain ⟨Am, cm, Ag, cg, h6, h6a, h6b, h6c⟩ := r6
    rw [h6] at s6
    go_simp
    exact hK.out _ _ ⟨rfl, Below.refl _ _, hI⟩
  refine ⟨fun b vals y w hI hf hd K hK => ?_, ?_⟩
  · skip
    go_simp
    exact hK.out _ _ ⟨⟨w.heap.size, rfl, hI.size, _, Blk.new w 27 [.int .i64 0, .slice none 0 0], rfl⟩, balloc (Below.refl _ _) _, hbI hI (balloc (Below.refl _ _) _)⟩
  refine ⟨fun b vals y w hI hf hd K hK => ?_, ?_⟩
  · skip
    obtain ⟨s10, r10, y10⟩ := hd 10 (by decide)
    clear y10
    replace s10 : b.tmps[13]? = some (vals 10) := s10
    obtain ⟨p, h10, h10a, cs, h10b, h10c⟩ := r10
    rw [h10] at s10
    obtain ⟨s7, r7, y7⟩ := hd 7 (by decide)
    clear y7
    replace s7 : b.tmps[77]? = some (vals 7) := s7
    obtain ⟨Am, cm, h7, h7a, h7b, h7c⟩ := r7
    rw [h7] at s7
    obtain ⟨x, y, rfl⟩ : ∃ x y, cs = [x, y] := by
      match cs, h10c with
      | [x, y], _ => exact ⟨x, y, rfl⟩
    obtain ⟨k0, k1, k2, k3⟩ := h10b.all2
    have hpl := h10b.lt
    go_simp
    have hfin := (h10b.set 0 (.int .i64 1)).set 1 (.slice Am 1 cm)
    simp only [List.set_cons_zero, List.set_cons_succ] at hfin
    have hst : St2 w10.heap.size w ((w.setCell ⟨p, 0, none⟩ (.int .i64 1)).setCell ⟨p, 1, none⟩ (.slice Am 1 cm)) := ⟨p, _, _, _, h10a, h10b, rfl, rfl⟩
    exact hK.out undef _ ⟨⟨p, Am, cm, by show [vals 10] = _; rw [h10], hfin, h7a, h7b, slr_st2 h7c (by omega) hst⟩, hst, hI.trans (st2_below hst)⟩
  refine ⟨fun b vals y w hI hf hd K hK => ?_, ?_⟩
  · skip
    obtain ⟨s8, r8, y8⟩ := hd 8 (by decide)
    clear y8
    replace s8 : b.tmps[78]? = some (vals 8) := s8
    obtain ⟨Ag, cg, h8⟩ := r8
    rw [h8] at s8
    go_simp
    exact hK.out _ _ ⟨⟨Ag, cg, rfl⟩, Below.refl _ _, hI⟩
  refine ⟨fun b vals y w hI hf hd K hK => ?_, ?_⟩
  · skip
    obtain ⟨s9, r9, y9⟩ := hd 9 (by decide)
    clear y9
    replace s9 : b.tmps[79]? = some (vals 9) := s9
    rw [show vals 9 = _ from r9] at s9
    go_simp
    exact hK.out _ _ ⟨rfl, Below.refl _ _, hI⟩
  exact trivial
set_option linter.unusedSimpArgs false in
set_option linter.unusedVariables false in
set_option maxRecDepth 100000 in
set_option maxHeartbeats 16000000 in
theorem sane_12 (w14 : World) (g ba oa ca bb ob cb : Nat) (p12 gs : Nat) (Q : Exit → Act → World → Prop) (hExC : ∀ (w : World), Below w14.heap.size w14 w → ExC w g ba oa ca bb ob cb) (HPy : Hid (∀ W, Below w14.heap.size w14 W → Blk W p12 27 [.int .i64 1, .slice (some ⟨gs, 0, none⟩) 2 2] ∧ Blk W gs 36 (ex5.items.flatMap cI))) (HCD : Hid (∀ W, Below w14.heap.size w14 W → Calls Try.prog 27 #[.slice (some ⟨ba, oa, none⟩) 2 ca, .slice (some ⟨gs, 6, none⟩) 1 1] W (DifferPost ex1 exIx W))) (l : List Oper) (hl : regL 12 = l) :
    StepsR Try.prog [some 101, some 102, some 103, some 104, some 105, some 106, some 107, some 108, some 100, some 109, some 110, some 22, some 23] [(1, .slice (some ⟨g, 0, none⟩) 2 2), (12, .pointer (some ⟨p12, 0, none⟩))] Q (fun k w w' => Below w.heap.size w w') (fun w => Below w14.heap.size w14 w) (fun _ => []) (sR12 g ba oa ca p12 gs) l 0 := by
  subst hl
  conv => arg 9; whnf
  have hbI : ∀ {w w' : World}, Below w14.heap.size w14 w → Below w.heap.size w w' → Below w14.heap.size w14 w' := fun h k => bthen h k
  refine ⟨fun b vals y w hI hf hd K hK => ?_, ?_⟩
  · skip
    obtain ⟨f1, f12, -⟩ := hf
    replace f1 : b.tmps[1]? = _ := f1
    replace f12 : b.tmps[12]? = _ := f12
    go_simp
    exact hK.out _ _ ⟨rfl, Below.refl _ _, hI⟩
  refine ⟨fun b vals y w hI hf hd K hK => ?_, ?_⟩
  · skip
    obtain ⟨s0, r0, y0⟩ := hd 0 (by decide)
    clear y0
    replace s0 : b.tmps[101]? = some (vals 0) := s0
    rw [show vals 0 = _ from r0] at s0
    go_simp
    exact hK.out _ _ ⟨rfl, Below.refl _ _, hI⟩
  refine ⟨fun b vals y w hI hf hd K hK => ?_, ?_⟩
  · skip
    obtain ⟨s1, r1, y1⟩ := hd 1 (by decide)
    clear y1
    replace s1 : b.tmps[102]? = some (vals 1) := s1
    rw [show vals 1 = _ from r1] at s1
    go_simp
    exact hK.out _ _ ⟨rfl, Below.refl _ _, hI⟩
  refine ⟨fun b vals y w hI hf hd K hK => ?_, ?_⟩
  · skip
    obtain ⟨s2, r2, y2⟩ := hd 2 (by decide)
    clear y2
    replace s2 : b.tmps[103]? = some (vals 2) := s2
    rw [show vals 2 = _ from r2] at s2
    have z := (hExC w hI).c1
    go_simp
    exact hK.out _ _ ⟨rfl, Below.refl _ _, hI⟩
  refine ⟨fun b vals y w hI hf hd K hK => ?_, ?_⟩
  · skip
    obtain ⟨f1, f12, -⟩ := hf
    replace f1 : b.tmps[1]? = _ := f1
    replace f12 : b.tmps[12]? = _ := f12
    go_simp
    exact hK.out _ _ ⟨rfl, Below.refl _ _, hI⟩
  refine ⟨fun b vals y w hI hf hd K hK => ?_, ?_⟩
  · skip
    obtain ⟨s4, r4, y4⟩ := hd 4 (by decide)
    clear y4
    replace s4 : b.tmps[105]? = some (vals 4) := s4
    rw [show vals 4 = _ from r4] at s4
    have z := HPy.out w hI
    obtain ⟨z0, z1⟩ := z.1.two
    go_simp
    exact hK.out _ _ ⟨rfl, Below.refl _ _, hI⟩
  refine ⟨fun b vals y w hI hf hd K hK => ?_, ?_⟩
  · skip
    obtain ⟨s5, r5, y5⟩ := hd 5 (by decide)
    clear y5
    replace s5 : b.tmps[106]? = some (vals 5) := s5
    rw [show vals 5 = _ from r5] at s5
    go_simp
    exact hK.out _ _ ⟨rfl, Below.refl _ _, hI⟩
  refine ⟨fun b vals y w hI hf hd K hK => ?_, ?_⟩
  · skip
    obtain ⟨s3, r3, y3⟩ := hd 3 (by decide)
    clear y3
    replace s3 : b.tmps[104]? = some (vals 3) := s3
    rw [show vals 3 = _ from r3] at s3
    obtain ⟨s6, r6, y6⟩ := hd 6 (by decide)
    clear y6
    replace s6 : b.tmps[107]? = some (vals 6) := s6
    rw [show vals 6 = _ from r6] at s6
    have zc := HCD.out w hI
    go_simp
    refine zc.mono ?_
    rintro e w' ⟨hb', ⟨hv, -⟩ | ⟨-, v, u, rfl, q1, q2⟩⟩
    · rw [ex_dOk] at hv; cases hv
    rw [ex_chg] at q1
    rw [ex_gone] at q2
    obtain ⟨A, c', rfl, a1, a2, a3⟩ := SlR.of_own q1
    obtain ⟨B, d', rfl, b1, b2, b3⟩ := SlR.of_own q2
    exact hK.out _ _ ⟨⟨A, c', B, d', rfl, ⟨a1, a2, a3⟩, b1, b2, b3⟩, hb', hbI hI hb'⟩
  refine ⟨fun b vals y w hI hf hd K hK => ?_, ?_⟩
  · skip
    obtain ⟨s7, r7, y7⟩ := hd 7 (by decide)
    clear y7
    replace s7 : b.tmps[108]? = some (vals 7) := s7
    obtain ⟨A, c', B, d', h7, h7a, h7b⟩ := r7
    rw [h7] at s7
    go_simp
    exact hK.out _ _ ⟨⟨A, c', B, d', rfl, h7a, h7b⟩, Below.refl _ _, hI⟩
  refine ⟨fun b vals y w hI hf hd K hK => ?_, ?_⟩
  · skip
    obtain ⟨s8, r8, y8⟩ := hd 8 (by decide)
    clear y8
    replace s8 : b.tmps[100]? = some (vals 8) := s8
    obtain ⟨A, c', B, d', h8, h8a, h8b⟩ := r8
    rw [h8] at s8
    go_simp
    exact hK.out _ _ ⟨⟨A, c', rfl, h8a⟩, Below.refl _ _, hI⟩
  refine ⟨fun b vals y w hI hf hd K hK => ?_, ?_⟩
  · skip
    obtain ⟨s8, r8, y8⟩ := hd 8 (by decide)
    clear y8
    replace s8 : b.tmps[100]? = some (vals 8) := s8
    obtain ⟨A, c', B, d', h8, h8a, h8b⟩ := r8
    rw [h8] at s8
    go_simp
    exact hK.out _ _ ⟨⟨B, d', rfl, h8b⟩, Below.refl _ _, hI⟩
  refine ⟨fun b vals y w hI hf hd K hK => ?_, ?_⟩
  · skip
    obtain ⟨s9, r9, y9⟩ := hd 9 (by decide)
    clear y9
    replace s9 : b.tmps[109]? = some (vals 9) := s9
    obtain ⟨A, c', h9, h9a⟩ := r9
    rw [h9] at s9
    go_simp
    exact hK.out _ _ ⟨⟨A, c', rfl, h9a⟩, Below.refl _ _, hI⟩
  refine ⟨fun b vals y w hI hf hd K hK => ?_, ?_⟩
  · skip
    obtain ⟨s10, r10, y10⟩ := hd 10 (by decide)
    clear y10
    replace s10 : b.tmps[110]? = some (vals 10) := s10
    obtain ⟨B, d', h10, h10a⟩ := r10
    rw [h10] at s10
    go_simp
    exact hK.out _ _ ⟨⟨B, d', rfl, h10a⟩, Below.refl _ _, hI⟩
  exact trivial
set_option linter.unusedSimpArgs false in
set_option linter.unusedVariables false in
set_option maxRecDepth 100000 in
set_option maxHeartbeats 16000000 in
theorem sane_15 (w15 : World) (g ba oa ca bb ob cb : Nat) (A3 A4 : Option Addr) (c3 n4 c4 : Nat) (rows4 : List PR) (Q : Exit → Act → World → Prop) (hExC : ∀ (w : World), Below w15.heap.size w15 w → ExC w g ba oa ca bb ob cb) (hn4 : n4 ≤ c4) (hc4 : c4 ≤ 9223372036854775807) (HS3 : Hid (∀ W, Below w15.heap.size w15 W → SlR W W.heap.size 6 A3 exIt.length (exIt.flatMap cI))) (HS4 : Hid (∀ W, Below w15.heap.size w15 W → SlR W W.heap.size 4 A4 n4 (rows4.flatMap cP) ∧ Pls W rows4 exPl)) (l : List Oper) (hl : regL 15 = l) :
    StepsR Try.prog [some 142, some 143, some 144, some 145, some 146, some 147, some 148, some 149, some 150, some 151, some 152, some 153, some 154, some 155, some 156, some 157, some 158, some 159, some 160, some 161, some 162, some 163, some 164, some 165, some 24] [(1, .slice (some ⟨g, 0, none⟩) 2 2), (3, .slice A3 exIt.length c3), (5, .slice A4 n4 c4)] Q (fun k w w' => Below w.heap.size w w') (fun w => Below w15.heap.size w15 w) (fun _ => []) (sR15 g bb ob cb A3 A4 c3 n4 c4) l 0 := by
  subst hl
  conv => arg 9; whnf
  have hbI : ∀ {w w' : World}, Below w15.heap.size w15 w → Below w.heap.size w w' → Below w15.heap.size w15 w' := fun h k => bthen h k
  refine ⟨fun b vals y w hI hf hd K hK => ?_, ?_⟩
  · skip
    obtain ⟨f1, f3, f5, -⟩ := hf
    replace f1 : b.tmps[1]? = _ := f1
    replace f3 : b.tmps[3]? = _ := f3
    replace f5 : b.tmps[5]? = _ := f5
    go_simp
    exact hK.out _ _ ⟨rfl, Below.refl _ _, hI⟩
  refine ⟨fun b vals y w hI hf hd K hK => ?_, ?_⟩
  · skip
    go_simp
    refine (c_box 1 0 0 ⟨#[100]⟩ w).mono ?_
    rintro e w' ⟨rfl, hb'⟩
    exact hK.out _ _ ⟨rfl, hb', hbI hI hb'⟩
  refine ⟨fun b vals y w hI hf hd K hK => ?_, ?_⟩
  · skip
    obtain ⟨f1, f3, f5, -⟩ := hf
    replace f1 : b.tmps[1]? = _ := f1
    replace f3 : b.tmps[3]? = _ := f3
    replace f5 : b.tmps[5]? = _ := f5
    go_simp
    exact hK.out _ _ ⟨rfl, Below.refl _ _, hI⟩
  refine ⟨fun b vals y w hI hf hd K hK => ?_, ?_⟩
  · skip
    obtain ⟨s2, r2, y2⟩ := hd 2 (by decide)
    clear y2
    replace s2 : b.tmps[144]? = some (vals 2) := s2
    rw [show vals 2 = _ from r2] at s2
    go_simp
    exact hK.out _ _ ⟨rfl, Below.refl _ _, hI⟩
  refine ⟨fun b vals y w hI hf hd K hK => ?_, ?_⟩
  · skip
    obtain ⟨s3, r3, y3⟩ := hd 3 (by decide)
    clear y3
    replace s3 : b.tmps[145]? = some (vals 3) := s3
    rw [show vals 3 = _ from r3] at s3
    go_simp
    exact hK.out _ _ ⟨rfl, Below.refl _ _, hI⟩
  refine ⟨fun b vals y w hI hf hd K hK => ?_, ?_⟩
  · skip
    obtain ⟨s4, r4, y4⟩ := hd 4 (by decide)
    clear y4
    replace s4 : b.tmps[146]? = some (vals 4) := s4
    rw [show vals 4 = _ from r4] at s4
    have z := (hExC w hI).c3
    go_simp
    exact hK.out _ _ ⟨rfl, Below.refl _ _, hI⟩
  refine ⟨fun b vals y w hI hf hd K hK => ?_, ?_⟩
  · skip
    obtain ⟨s5, r5, y5⟩ := hd 5 (by decide)
    clear y5
    replace s5 : b.tmps[147]? = some (vals 5) := s5
    rw [show vals 5 = _ from r5] at s5
    go_simp
    exact hK.out _ _ ⟨rfl, Below.refl _ _, hI⟩
  refine ⟨fun b vals y w hI hf hd K hK => ?_, ?_⟩
  · skip
    obtain ⟨s6, r6, y6⟩ := hd 6 (by decide)
    clear y6
    replace s6 : b.tmps[148]? = some (vals 6) := s6
    rw [show vals 6 = _ from r6] at s6
    have z := (hExC w hI).k0
    have z0 := z 0 _ rfl
    have z1 := z 1 _ rfl
    have z2 := z 2 _ rfl
    have z3 := z 3 _ rfl
    have z4 := z 4 _ rfl
    have z5 := z 5 _ rfl
    clear z
    simp only [Nat.add_zero] at z0
    go_simp
    exact hK.out _ _ ⟨rfl, Below.refl _ _, hI⟩
  refine ⟨fun b vals y w hI hf hd K hK => ?_, ?_⟩
  · skip
    go_simp
    refine (c_box 9 5 5 ⟨#[101]⟩ w).mono ?_
    rintro e w' ⟨rfl, hb'⟩
    exact hK.out _ _ ⟨rfl, hb', hbI hI hb'⟩
  refine ⟨fun b vals y w hI hf hd K hK => ?_, ?_⟩
  · skip
    obtain ⟨s1, r1, y1⟩ := hd 1 (by decide)
    clear y1
    replace s1 : b.tmps[143]? = some (vals 1) := s1
    rw [show vals 1 = _ from r1] at s1
    obtain ⟨s7, r7, y7⟩ := hd 7 (by decide)
    clear y7
    replace s7 : b.tmps[149]? = some (vals 7) := s7
    rw [show vals 7 = _ from r7] at s7
    obtain ⟨s8, r8, y8⟩ := hd 8 (by decide)
    clear y8
    replace s8 : b.tmps[150]? = some (vals 8) := s8
    rw [show vals 8 = _ from r8] at s8
    go_simp
    exact hK.out _ _ ⟨⟨w.heap.size, rfl, Blk.new w 36 (exIt.flatMap cI)⟩, balloc (Below.refl _ _) _, hbI hI (balloc (Below.refl _ _) _)⟩
  refine ⟨fun b vals y w hI hf hd K hK => ?_, ?_⟩
  · skip
    obtain ⟨s0, r0, y0⟩ := hd 0 (by decide)
    clear y0
    replace s0 : b.tmps[142]? = some (vals 0) := s0
    rw [show vals 0 = _ from r0] at s0
    obtain ⟨s9, r9, y9⟩ := hd 9 (by decide)
    clear y9
    replace s9 : b.tmps[151]? = some (vals 9) := s9
    obtain ⟨gx, h9, h9a⟩ := r9
    rw [h9] at s9
    have zc := c_rSameItems A3 exIt.length c3 exIt (some ⟨gx, 0, none⟩) 3 3 exIt w (by decide) (by decide) (HS3.out w hI) (h9a.slr rfl)
    go_simp
    refine zc.mono ?_
    rintro e w' ⟨rfl, hb'⟩
    exact hK.out _ _ ⟨by show Value.bool _ = _; simp, hb', hbI hI hb'⟩
  refine ⟨fun b vals y w hI hf hd K hK => ?_, ?_⟩
  · skip
    obtain ⟨s10, r10, y10⟩ := hd 10 (by decide)
    clear y10
    replace s10 : b.tmps[152]? = some (vals 10) := s10
    rw [show vals 10 = _ from r10] at s10
    go_simp
    exact hK.out _ _ ⟨rfl, Below.refl _ _, hI⟩
  refine ⟨fun b vals y w hI hf hd K hK => ?_, ?_⟩
  · skip
    obtain ⟨f1, f3, f5, -⟩ := hf
    replace f1 : b.tmps[1]? = _ := f1
    replace f3 : b.tmps[3]? = _ := f3
    replace f5 : b.tmps[5]? = _ := f5
    obtain ⟨s11, r11, y11⟩ := hd 11 (by decide)
    replace y11 : y 11 = some true := y11 true r11
    replace s11 : b.tmps[153]? = some (vals 11) := s11
    rw [show vals 11 = _ from r11] at s11
    go_simp
    exact hK.out _ _ ⟨rfl, Below.refl _ _, hI⟩
  refine ⟨fun b vals y w hI hf hd K hK => ?_, ?_⟩
  · skip
    obtain ⟨s11, r11, y11⟩ := hd 11 (by decide)
    replace y11 : y 11 = some true := y11 true r11
    replace s11 : b.tmps[153]? = some (vals 11) := s11
    rw [show vals 11 = _ from r11] at s11
    go_simp
    exact hK.out _ _ ⟨⟨w.heap.size, rfl, Blk.new w 3 [.int .i64 2004, .int .i64 1]⟩, balloc (Below.refl _ _) _, hbI hI (balloc (Below.refl _ _) _)⟩
  refine ⟨fun b vals y w hI hf hd K hK => ?_, ?_⟩
  · skip
    obtain ⟨s11, r11, y11⟩ := hd 11 (by decide)
    replace y11 : y 11 = some true := y11 true r11
    replace s11 : b.tmps[153]? = some (vals 11) := s11
    rw [show vals 11 = _ from r11] at s11
    obtain ⟨s13, r13, y13⟩ := hd 13 (by decide)
    clear y13
    replace s13 : b.tmps[155]? = some (vals 13) := s13
    obtain ⟨gx, h13, h13a⟩ := r13
    rw [h13] at s13
    go_simp
    refine (c_at 1000 1000 ⟨#[100]⟩ (some ⟨gx, 0, none⟩) 2 2 w).mono ?_
    rintro e w' ⟨rfl, hb'⟩
    exact hK.out _ _ ⟨⟨gx, rfl, h13a.below hb' h13a.lt⟩, hb', hbI hI hb'⟩
  refine ⟨fun b vals y w hI hf hd K hK => ?_, ?_⟩
  · skip
    obtain ⟨s11, r11, y11⟩ := hd 11 (by decide)
    replace y11 : y 11 = some true := y11 true r11
    replace s11 : b.tmps[153]? = some (vals 11) := s11
    rw [show vals 11 = _ from r11] at s11
    go_simp
    exact hK.out _ _ ⟨⟨w.heap.size, rfl, Blk.new w 3 [.int .i64 2004, .int .i64 7, .int .i64 3]⟩, balloc (Below.refl _ _) _, hbI hI (balloc (Below.refl _ _) _)⟩
  refine ⟨fun b vals y w hI hf hd K hK => ?_, ?_⟩
  · skip
    obtain ⟨s11, r11, y11⟩ := hd 11 (by decide)
    replace y11 : y 11 = some true := y11 true r11
    replace s11 : b.tmps[153]? = some (vals 11) := s11
    rw [show vals 11 = _ from r11] at s11
    obtain ⟨s15, r15, y15⟩ := hd 15 (by decide)
    clear y15
    replace s15 : b.tmps[157]? = some (vals 15) := s15
    obtain ⟨gx, h15, h15a⟩ := r15
    rw [h15] at s15
    go_simp
    refine (c_at 1110 1110 ⟨#[97]⟩ (some ⟨gx, 0, none⟩) 3 3 w).mono ?_
    rintro e w' ⟨rfl, hb'⟩
    exact hK.out _ _ ⟨⟨gx, rfl, h15a.below hb' h15a.lt⟩, hb', hbI hI hb'⟩
  refine ⟨fun b vals y w hI hf hd K hK => ?_, ?_⟩
  · skip
    obtain ⟨s11, r11, y11⟩ := hd 11 (by decide)
    replace y11 : y 11 = some true := y11 true r11
    replace s11 : b.tmps[153]? = some (vals 11) := s11
    rw [show vals 11 = _ from r11] at s11
    go_simp
    exact hK.out _ _ ⟨⟨w.heap.size, rfl, Blk.new w 3 [.int .i64 2004, .int .i64 7, .int .i64 5]⟩, balloc (Below.refl _ _) _, hbI hI (balloc (Below.refl _ _) _)⟩
  refine ⟨fun b vals y w hI hf hd K hK => ?_, ?_⟩
  · skip
    obtain ⟨s11, r11, y11⟩ := hd 11 (by decide)
    replace y11 : y 11 = some true := y11 true r11
    replace s11 : b.tmps[153]? = some (vals 11) := s11
    rw [show vals 11 = _ from r11] at s11
    obtain ⟨s17, r17, y17⟩ := hd 17 (by decide)
    clear y17
    replace s17 : b.tmps[159]? = some (vals 17) := s17
    obtain ⟨gx, h17, h17a⟩ := r17
    rw [h17] at s17
    go_simp
    refine (c_at 1120 1100 ⟨#[98]⟩ (some ⟨gx, 0, none⟩) 3 3 w).mono ?_
    rintro e w' ⟨rfl, hb'⟩
    exact hK.out _ _ ⟨⟨gx, rfl, h17a.below hb' h17a.lt⟩, hb', hbI hI hb'⟩
  refine ⟨fun b vals y w hI hf hd K hK => ?_, ?_⟩
  · skip
    obtain ⟨s11, r11, y11⟩ := hd 11 (by decide)
    replace y11 : y 11 = some true := y11 true r11
    replace s11 : b.tmps[153]? = some (vals 11) := s11
    rw [show vals 11 = _ from r11] at s11
    go_simp
    exact hK.out _ _ ⟨⟨w.heap.size, rfl, Blk.new w 3 [.int .i64 2004, .int .i64 9]⟩, balloc (Below.refl _ _) _, hbI hI (balloc (Below.refl _ _) _)⟩
  refine ⟨fun b vals y w hI hf hd K hK => ?_, ?_⟩
  · skip
    obtain ⟨s11, r11, y11⟩ := hd 11 (by decide)
    replace y11 : y 11 = some true := y11 true r11
    replace s11 : b.tmps[153]? = some (vals 11) := s11
    rw [show vals 11 = _ from r11] at s11
    obtain ⟨s19, r19, y19⟩ := hd 19 (by decide)
    clear y19
    replace s19 : b.tmps[161]? = some (vals 19) := s19
    obtain ⟨gx, h19, h19a⟩ := r19
    rw [h19] at s19
    go_simp
    refine (c_at 1005 1005 ⟨#[101]⟩ (some ⟨gx, 0, none⟩) 2 2 w).mono ?_
    rintro e w' ⟨rfl, hb'⟩
    exact hK.out _ _ ⟨⟨gx, rfl, h19a.below hb' h19a.lt⟩, hb', hbI hI hb'⟩
  refine ⟨fun b vals y w hI hf hd K hK => ?_, ?_⟩
  · skip
    obtain ⟨s11, r11, y11⟩ := hd 11 (by decide)
    replace y11 : y 11 = some true := y11 true r11
    replace s11 : b.tmps[153]? = some (vals 11) := s11
    rw [show vals 11 = _ from r11] at s11
    obtain ⟨s14, r14, y14⟩ := hd 14 (by decide)
    clear y14
    replace s14 : b.tmps[156]? = some (vals 14) := s14
    obtain ⟨x1, h14, h14a⟩ := r14
    rw [h14] at s14
    obtain ⟨s16, r16, y16⟩ := hd 16 (by decide)
    clear y16
    replace s16 : b.tmps[158]? = some (vals 16) := s16
    obtain ⟨x2, h16, h16a⟩ := r16
    rw [h16] at s16
    obtain ⟨s18, r18, y18⟩ := hd 18 (by decide)
    clear y18
    replace s18 : b.tmps[160]? = some (vals 18) := s18
    obtain ⟨x3, h18, h18a⟩ := r18
    rw [h18] at s18
    obtain ⟨s20, r20, y20⟩ := hd 20 (by decide)
    clear y20
    replace s20 : b.tmps[162]? = some (vals 20) := s20
    obtain ⟨x4, h20, h20a⟩ := r20
    rw [h20] at s20
    go_simp
    exact hK.out _ _ ⟨⟨w.heap.size, x1, x2, x3, x4, rfl, Blk.new w 62 ((exRows x1 x2 x3 x4).flatMap cP), (Pls4 h14a h16a h18a h20a).to (balloc (Below.refl _ _) _)⟩, balloc (Below.refl _ _) _, hbI hI (balloc (Below.refl _ _) _)⟩
  refine ⟨fun b vals y w hI hf hd K hK => ?_, ?_⟩
  · skip
    obtain ⟨s11, r11, y11⟩ := hd 11 (by decide)
    replace y11 : y 11 = some true := y11 true r11
    replace s11 : b.tmps[153]? = some (vals 11) := s11
    rw [show vals 11 = _ from r11] at s11
    obtain ⟨s12, r12, y12⟩ := hd 12 (by decide)
    clear y12
    replace s12 : b.tmps[154]? = some (vals 12) := s12
    rw [show vals 12 = _ from r12] at s12
    obtain ⟨s21, r21, y21⟩ := hd 21 (by decide)
    clear y21
    replace s21 : b.tmps[163]? = some (vals 21) := s21
    obtain ⟨gx, x1, x2, x3, x4, h21, h21a, h21b⟩ := r21
    rw [h21] at s21
    have zc := c_rSamePlaced A4 n4 c4 rows4 exPl (some ⟨gx, 0, none⟩) 4 4 (exRows x1 x2 x3 x4) exPl w (by omega) (by decide) (HS4.out w hI).1 (h21a.slr rfl) (HS4.out w hI).2 h21b
    go_simp
    refine zc.mono ?_
    rintro e w' ⟨rfl, hb'⟩
    exact hK.out _ _ ⟨by show Value.bool _ = _; simp, hb', hbI hI hb'⟩
  refine ⟨fun b vals y w hI hf hd K hK => ?_, ?_⟩
  · skip
    obtain ⟨s11, r11, y11⟩ := hd 11 (by decide)
    replace y11 : y 11 = some true := y11 true r11
    replace s11 : b.tmps[153]? = some (vals 11) := s11
    rw [show vals 11 = _ from r11] at s11
    obtain ⟨s22, r22, y22⟩ := hd 22 (by decide)
    clear y22
    replace s22 : b.tmps[164]? = some (vals 22) := s22
    rw [show vals 22 = _ from r22] at s22
    go_simp
    exact hK.out _ _ ⟨rfl, Below.refl _ _, hI⟩
  refine ⟨fun b vals y w hI hf hd K hK => ?_, ?_⟩
  · skip
    obtain ⟨s23, r23, y23⟩ := hd 23 (by decide)
    clear y23
    replace s23 : b.tmps[165]? = some (vals 23) := s23
    rw [show vals 23 = _ from r23] at s23
    go_simp
    exact hK.out _ _ ⟨rfl, Below.refl _ _, hI⟩
  exact trivial
set_option linter.unusedSimpArgs false in
set_option linter.unusedVariables false in
set_option maxRecDepth 100000 in
set_option maxHeartbeats 16000000 in
theorem sane_16 (w7 w16 : World) (Aq : Option Addr) (cq : Nat) (Bq : Option Addr) (dq : Nat) (A7 : Option Addr) (c7 : Nat) (Q : Exit → Act → World → Prop) (HQ : Hid (∀ W, Below w16.heap.size w16 W → Blk W w7.heap.size 45 (cC ⟨2004, 2, 1000, 1000, Aq, 1, cq, Bq, 0, dq⟩))) (HQS : Hid (∀ W, Below w16.heap.size w16 W → SlR W W.heap.size 6 Aq 1 (exRb.changes.flatMap cI) ∧ SlR W W.heap.size 1 A7 1 ([(1 : Int)].flatMap cN))) (l : List Oper) (hl : regL 16 = l) :
    StepsR Try.prog [some 166, some 167, some 168, some 169, some 170, some 171, some 172, some 173, some 174, some 175, some 176, some 177, some 178, some 179, some 180, some 181, some 182, some 183, some 184, some 185, some 186, some 25] [(8, .pointer (some ⟨w7.heap.size, 0, none⟩)), (9, .slice A7 1 c7)] Q (fun k w w' => Below w.heap.size w w') (fun w => Below w16.heap.size w16 w) (fun _ => []) (sR16 w7.heap.size Aq cq Bq dq A7 c7) l 0 := by
  subst hl
  conv => arg 9; whnf
  have hbI : ∀ {w w' : World}, Below w16.heap.size w16 w → Below w.heap.size w w' → Below w16.heap.size w16 w' := fun h k => bthen h k
  refine ⟨fun b vals y w hI hf hd K hK => ?_, ?_⟩
  · skip
    obtain ⟨f8, f9, -⟩ := hf
    replace f8 : b.tmps[8]? = _ := f8
    replace f9 : b.tmps[9]? = _ := f9
    go_simp
    exact hK.out _ _ ⟨rfl, Below.refl _ _, hI⟩
  refine ⟨fun b vals y w hI hf hd K hK => ?_, ?_⟩
  · skip
    obtain ⟨s0, r0, y0⟩ := hd 0 (by decide)
    clear y0
    replace s0 : b.tmps[166]? = some (vals 0) := s0
    rw [show vals 0 = _ from r0] at s0
    have z := HQ.out w hI
    obtain ⟨z0, z1, z2, z3, z4, z5⟩ := z.allC
    have zl := z.lt
    go_simp
    exact hK.out _ _ ⟨rfl, Below.refl _ _, hI⟩
  refine ⟨fun b vals y w hI hf hd K hK => ?_, ?_⟩
  · skip
    go_simp
    refine (c_box 9 5 5 ⟨#[101]⟩ w).mono ?_
    rintro e w' ⟨rfl, hb'⟩
    exact hK.out _ _ ⟨rfl, hb', hbI hI hb'⟩
  refine ⟨fun b vals y w hI hf hd K hK => ?_, ?_⟩
  · skip
    obtain ⟨s2, r2, y2⟩ := hd 2 (by decide)
    clear y2
    replace s2 : b.tmps[168]? = some (vals 2) := s2
    rw [show vals 2 = _ from r2] at s2
    go_simp
    exact hK.out _ _ ⟨⟨w.heap.size, rfl, Blk.new w 36 (exRb.changes.flatMap cI)⟩, balloc (Below.refl _ _) _, hbI hI (balloc (Below.refl _ _) _)⟩
  refine ⟨fun b vals y w hI hf hd K hK => ?_, ?_⟩
  · skip
    obtain ⟨s1, r1, y1⟩ := hd 1 (by decide)
    clear y1
    replace s1 : b.tmps[167]? = some (vals 1) := s1
    rw [show vals 1 = _ from r1] at s1
    obtain ⟨s3, r3, y3⟩ := hd 3 (by decide)
    clear y3
    replace s3 : b.tmps[169]? = some (vals 3) := s3
    obtain ⟨gx, h3, h3a⟩ := r3
    rw [h3] at s3
    have zc := c_rSameItems Aq 1 cq exRb.changes (some ⟨gx, 0, none⟩) 1 1 exRb.changes w (by decide) (by decide) (HQS.out w hI).1 (h3a.slr rfl)
    go_simp
    refine zc.mono ?_
    rintro e w' ⟨rfl, hb'⟩
    exact hK.out _ _ ⟨by show Value.bool _ = _; simp, hb', hbI hI hb'⟩
  refine ⟨fun b vals y w hI hf hd K hK => ?_, ?_⟩
  · skip
    obtain ⟨s4, r4, y4⟩ := hd 4 (by decide)
    clear y4
    replace s4 : b.tmps[170]? = some (vals 4) := s4
    rw [show vals 4 = _ from r4] at s4
    go_simp
    exact hK.out _ _ ⟨rfl, Below.refl _ _, hI⟩
  refine ⟨fun b vals y w hI hf hd K hK => ?_, ?_⟩
  · skip
    obtain ⟨f8, f9, -⟩ := hf
    replace f8 : b.tmps[8]? = _ := f8
    replace f9 : b.tmps[9]? = _ := f9
    obtain ⟨s5, r5, y5⟩ := hd 5 (by decide)
    replace y5 : y 5 = some true := y5 true r5
    replace s5 : b.tmps[171]? = some (vals 5) := s5
    rw [show vals 5 = _ from r5] at s5
    go_simp
    exact hK.out _ _ ⟨rfl, Below.refl _ _, hI⟩
  refine ⟨fun b vals y w hI hf hd K hK => ?_, ?_⟩
  · skip
    obtain ⟨s5, r5, y5⟩ := hd 5 (by decide)
    replace y5 : y 5 = some true := y5 true r5
    replace s5 : b.tmps[171]? = some (vals 5) := s5
    rw [show vals 5 = _ from r5] at s5
    obtain ⟨s6, r6, y6⟩ := hd 6 (by decide)
    clear y6
    replace s6 : b.tmps[172]? = some (vals 6) := s6
    rw [show vals 6 = _ from r6] at s6
    have z := HQ.out w hI
    obtain ⟨z0, z1, z2, z3, z4, z5⟩ := z.allC
    have zl := z.lt
    go_simp
    exact hK.out _ _ ⟨rfl, Below.refl _ _, hI⟩
  refine ⟨fun b vals y w hI hf hd K hK => ?_, ?_⟩
  · skip
    obtain ⟨s5, r5, y5⟩ := hd 5 (by decide)
    replace y5 : y 5 = some true := y5 true r5
    replace s5 : b.tmps[171]? = some (vals 5) := s5
    rw [show vals 5 = _ from r5] at s5
    obtain ⟨s7, r7, y7⟩ := hd 7 (by decide)
    clear y7
    replace s7 : b.tmps[173]? = some (vals 7) := s7
    rw [show vals 7 = _ from r7] at s7
    go_simp
    exact hK.out _ _ ⟨rfl, Below.refl _ _, hI⟩
  refine ⟨fun b vals y w hI hf hd K hK => ?_, ?_⟩
  · skip
    obtain ⟨s5, r5, y5⟩ := hd 5 (by decide)
    replace y5 : y 5 = some true := y5 true r5
    replace s5 : b.tmps[171]? = some (vals 5) := s5
    rw [show vals 5 = _ from r5] at s5
    obtain ⟨s8, r8, y8⟩ := hd 8 (by decide)
    clear y8
    replace s8 : b.tmps[174]? = some (vals 8) := s8
    rw [show vals 8 = _ from r8] at s8
    go_simp
    exact hK.out _ _ ⟨rfl, Below.refl _ _, hI⟩
  refine ⟨fun b vals y w hI hf hd K hK => ?_, ?_⟩
  · skip
    obtain ⟨s5, r5, y5⟩ := hd 5 (by decide)
    replace y5 : y 5 = some true := y5 true r5
    replace s5 : b.tmps[171]? = some (vals 5) := s5
    rw [show vals 5 = _ from r5] at s5
    obtain ⟨s9, r9, y9⟩ := hd 9 (by decide)
    clear y9
    replace s9 : b.tmps[175]? = some (vals 9) := s9
    rw [show vals 9 = _ from r9] at s9
    go_simp
    exact hK.out _ _ ⟨rfl, Below.refl _ _, hI⟩
  refine ⟨fun b vals y w hI hf hd K hK => ?_, ?_⟩
  · skip
    obtain ⟨s10, r10, y10⟩ := hd 10 (by decide)
    clear y10
    replace s10 : b.tmps[176]? = some (vals 10) := s10
    rw [show vals 10 = _ from r10] at s10
    go_simp
    exact hK.out _ _ ⟨rfl, Below.refl _ _, hI⟩
  refine ⟨fun b vals y w hI hf hd K hK => ?_, ?_⟩
  · skip
    obtain ⟨f8, f9, -⟩ := hf
    replace f8 : b.tmps[8]? = _ := f8
    replace f9 : b.tmps[9]? = _ := f9
    obtain ⟨s11, r11, y11⟩ := hd 11 (by decide)
    replace y11 : y 11 = some true := y11 true r11
    replace s11 : b.tmps[177]? = some (vals 11) := s11
    rw [show vals 11 = _ from r11] at s11
    go_simp
    exact hK.out _ _ ⟨rfl, Below.refl _ _, hI⟩
  refine ⟨fun b vals y w hI hf hd K hK => ?_, ?_⟩
  · skip
    obtain ⟨s11, r11, y11⟩ := hd 11 (by decide)
    replace y11 : y 11 = some true := y11 true r11
    replace s11 : b.tmps[177]? = some (vals 11) := s11
    rw [show vals 11 = _ from r11] at s11
    obtain ⟨s12, r12, y12⟩ := hd 12 (by decide)
    clear y12
    replace s12 : b.tmps[178]? = some (vals 12) := s12
    rw [show vals 12 = _ from r12] at s12
    have z := HQ.out w hI
    obtain ⟨z0, z1, z2, z3, z4, z5⟩ := z.allC
    have zl := z.lt
    go_simp
    exact hK.out _ _ ⟨rfl, Below.refl _ _, hI⟩
  refine ⟨fun b vals y w hI hf hd K hK => ?_, ?_⟩
  · skip
    obtain ⟨s11, r11, y11⟩ := hd 11 (by decide)
    replace y11 : y 11 = some true := y11 true r11
    replace s11 : b.tmps[177]? = some (vals 11) := s11
    rw [show vals 11 = _ from r11] at s11
    obtain ⟨s13, r13, y13⟩ := hd 13 (by decide)
    clear y13
    replace s13 : b.tmps[179]? = some (vals 13) := s13
    rw [show vals 13 = _ from r13] at s13
    go_simp
    exact hK.out _ _ ⟨rfl, Below.refl _ _, hI⟩
  refine ⟨fun b vals y w hI hf hd K hK => ?_, ?_⟩
  · skip
    obtain ⟨s11, r11, y11⟩ := hd 11 (by decide)
    replace y11 : y 11 = some true := y11 true r11
    replace s11 : b.tmps[177]? = some (vals 11) := s11
    rw [show vals 11 = _ from r11] at s11
    obtain ⟨s14, r14, y14⟩ := hd 14 (by decide)
    clear y14
    replace s14 : b.tmps[180]? = some (vals 14) := s14
    rw [show vals 14 = _ from r14] at s14
    go_simp
    exact hK.out _ _ ⟨rfl, Below.refl _ _, hI⟩
  refine ⟨fun b vals y w hI hf hd K hK => ?_, ?_⟩
  · skip
    obtain ⟨s15, r15, y15⟩ := hd 15 (by decide)
    clear y15
    replace s15 : b.tmps[181]? = some (vals 15) := s15
    rw [show vals 15 = _ from r15] at s15
    go_simp
    exact hK.out _ _ ⟨rfl, Below.refl _ _, hI⟩
  refine ⟨fun b vals y w hI hf hd K hK => ?_, ?_⟩
  · skip
    obtain ⟨f8, f9, -⟩ := hf
    replace f8 : b.tmps[8]? = _ := f8
    replace f9 : b.tmps[9]? = _ := f9
    obtain ⟨s16, r16, y16⟩ := hd 16 (by decide)
    replace y16 : y 16 = some true := y16 true r16
    replace s16 : b.tmps[182]? = some (vals 16) := s16
    rw [show vals 16 = _ from r16] at s16
    go_simp
    exact hK.out _ _ ⟨rfl, Below.refl _ _, hI⟩
  refine ⟨fun b vals y w hI hf hd K hK => ?_, ?_⟩
  · skip
    obtain ⟨s16, r16, y16⟩ := hd 16 (by decide)
    replace y16 : y 16 = some true := y16 true r16
    replace s16 : b.tmps[182]? = some (vals 16) := s16
    rw [show vals 16 = _ from r16] at s16
    go_simp
    exact hK.out _ _ ⟨⟨w.heap.size, rfl, Blk.new w 3 [.int .i64 1]⟩, balloc (Below.refl _ _) _, hbI hI (balloc (Below.refl _ _) _)⟩
  refine ⟨fun b vals y w hI hf hd K hK => ?_, ?_⟩
  · skip
    obtain ⟨s16, r16, y16⟩ := hd 16 (by decide)
    replace y16 : y 16 = some true := y16 true r16
    replace s16 : b.tmps[182]? = some (vals 16) := s16
    rw [show vals 16 = _ from r16] at s16
    obtain ⟨s17, r17, y17⟩ := hd 17 (by decide)
    clear y17
    replace s17 : b.tmps[183]? = some (vals 17) := s17
    rw [show vals 17 = _ from r17] at s17
    obtain ⟨s18, r18, y18⟩ := hd 18 (by decide)
    clear y18
    replace s18 : b.tmps[184]? = some (vals 18) := s18
    obtain ⟨gx, h18, h18a⟩ := r18
    rw [h18] at s18
    have zc := c_rInts A7 1 c7 [1] (some ⟨gx, 0, none⟩) 1 1 [1] w (by decide) (by decide) (HQS.out w hI).2 (h18a.slr rfl)
    go_simp
    refine zc.mono ?_
    rintro e w' ⟨rfl, hb'⟩
    exact hK.out _ _ ⟨by show Value.bool _ = _; simp, hb', hbI hI hb'⟩
  refine ⟨fun b vals y w hI hf hd K hK => ?_, ?_⟩
  · skip
    obtain ⟨s16, r16, y16⟩ := hd 16 (by decide)
    replace y16 : y 16 = some true := y16 true r16
    replace s16 : b.tmps[182]? = some (vals 16) := s16
    rw [show vals 16 = _ from r16] at s16
    obtain ⟨s19, r19, y19⟩ := hd 19 (by decide)
    clear y19
    replace s19 : b.tmps[185]? = some (vals 19) := s19
    rw [show vals 19 = _ from r19] at s19
    go_simp
    exact hK.out _ _ ⟨rfl, Below.refl _ _, hI⟩
  refine ⟨fun b vals y w hI hf hd K hK => ?_, ?_⟩
  · skip
    obtain ⟨s20, r20, y20⟩ := hd 20 (by decide)
    clear y20
    replace s20 : b.tmps[186]? = some (vals 20) := s20
    rw [show vals 20 = _ from r20] at s20
    go_simp
    exact hK.out _ _ ⟨rfl, Below.refl _ _, hI⟩
  exact trivial
set_option linter.unusedSimpArgs false in
set_option linter.unusedVariables false in
set_option maxRecDepth 100000 in
set_option maxHeartbeats 16000000 in
theorem sane_17 (w16 : World) (p13 : Nat) (Am : Option Addr) (cm : Nat) (Ag : Option Addr) (cg : Nat) (Q : Exit → Act → World → Prop) (HP13 : Hid (∀ W, Below w16.heap.size w16 W → Blk W p13 27 [.int .i64 1, .slice Am 1 cm] ∧ SlR W W.heap.size 6 Am 1 (exIx.flatMap cI))) (l : List Oper) (hl : regL 17 = l) :
    StepsR Try.prog [some 187, some 188, some 189, some 190, some 191, some 192, some 193, some 194, some 195, some 196, some 197, some 198, some 199, some 200, some 201, some 26] [(13, .pointer (some ⟨p13, 0, none⟩)), (14, .slice Ag 0 cg)] Q (fun k w w' => Below w.heap.size w w') (fun w => Below w16.heap.size w16 w) (fun _ => []) (sR17 p13 Am cm Ag cg) l 0 := by
  subst hl
  conv => arg 9; whnf
  have hbI : ∀ {w w' : World}, Below w16.heap.size w16 w → Below w.heap.size w w' → Below w16.heap.size w16 w' := fun h k => bthen h k
  refine ⟨fun b vals y w hI hf hd K hK => ?_, ?_⟩
  · skip
    obtain ⟨f13, f14, -⟩ := hf
    replace f13 : b.tmps[13]? = _ := f13
    replace f14 : b.tmps[14]? = _ := f14
    go_simp
    exact hK.out _ _ ⟨rfl, Below.refl _ _, hI⟩
  refine ⟨fun b vals y w hI hf hd K hK => ?_, ?_⟩
  · skip
    obtain ⟨s0, r0, y0⟩ := hd 0 (by decide)
    clear y0
    replace s0 : b.tmps[187]? = some (vals 0) := s0
    rw [show vals 0 = _ from r0] at s0
    have z := HP13.out w hI
    obtain ⟨z0, z1⟩ := z.1.two
    have zl := z.1.lt
    go_simp
    exact hK.out _ _ ⟨rfl, Below.refl _ _, hI⟩
  refine ⟨fun b vals y w hI hf hd K hK => ?_, ?_⟩
  · skip
    go_simp
    refine (c_box 5 20 0 ⟨#[120]⟩ w).mono ?_
    rintro e w' ⟨rfl, hb'⟩
    exact hK.out _ _ ⟨rfl, hb', hbI hI hb'⟩
  refine ⟨fun b vals y w hI hf hd K hK => ?_, ?_⟩
  · skip
    obtain ⟨s2, r2, y2⟩ := hd 2 (by decide)
    clear y2
    replace s2 : b.tmps[189]? = some (vals 2) := s2
    rw [show vals 2 = _ from r2] at s2
    go_simp
    exact hK.out _ _ ⟨⟨w.heap.size, rfl, Blk.new w 36 (exIx.flatMap cI)⟩, balloc (Below.refl _ _) _, hbI hI (balloc (Below.refl _ _) _)⟩
  refine ⟨fun b vals y w hI hf hd K hK => ?_, ?_⟩
  · skip
    obtain ⟨s1, r1, y1⟩ := hd 1 (by decide)
    clear y1
    replace s1 : b.tmps[188]? = some (vals 1) := s1
    rw [show vals 1 = _ from r1] at s1
    obtain ⟨s3, r3, y3⟩ := hd 3 (by decide)
    clear y3
    replace s3 : b.tmps[190]? = some (vals 3) := s3
    obtain ⟨gx, h3, h3a⟩ := r3
    rw [h3] at s3
    have zc := c_rSameItems Am 1 cm exIx (some ⟨gx, 0, none⟩) 1 1 exIx w (by decide) (by decide) (HP13.out w hI).2 (h3a.slr rfl)
    go_simp
    refine zc.mono ?_
    rintro e w' ⟨rfl, hb'⟩
    exact hK.out _ _ ⟨by show Value.bool _ = _; simp, hb', hbI hI hb'⟩
  refine ⟨fun b vals y w hI hf hd K hK => ?_, ?_⟩
  · skip
    obtain ⟨s4, r4, y4⟩ := hd 4 (by decide)
    clear y4
    replace s4 : b.tmps[191]? = some (vals 4) := s4
    rw [show vals 4 = _ from r4] at s4
    go_simp
    exact hK.out _ _ ⟨rfl, Below.refl _ _, hI⟩
  refine ⟨fun b vals y w hI hf hd K hK => ?_, ?_⟩
  · skip
    obtain ⟨f13, f14, -⟩ := hf
    replace f13 : b.tmps[13]? = _ := f13
    replace f14 : b.tmps[14]? = _ := f14
    obtain ⟨s5, r5, y5⟩ := hd 5 (by decide)
    replace y5 : y 5 = some true := y5 true r5
    replace s5 : b.tmps[192]? = some (vals 5) := s5
    rw [show vals 5 = _ from r5] at s5
    go_simp
    exact hK.out _ _ ⟨rfl, Below.refl _ _, hI⟩
  refine ⟨fun b vals y w hI hf hd K hK => ?_, ?_⟩
  · skip
    obtain ⟨s5, r5, y5⟩ := hd 5 (by decide)
    replace y5 : y 5 = some true := y5 true r5
    replace s5 : b.tmps[192]? = some (vals 5) := s5
    rw [show vals 5 = _ from r5] at s5
    obtain ⟨s6, r6, y6⟩ := hd 6 (by decide)
    clear y6
    replace s6 : b.tmps[193]? = some (vals 6) := s6
    rw [show vals 6 = _ from r6] at s6
    have z := HP13.out w hI
    obtain ⟨z0, z1⟩ := z.1.two
    have zl := z.1.lt
    go_simp
    exact hK.out _ _ ⟨rfl, Below.refl _ _, hI⟩
  refine ⟨fun b vals y w hI hf hd K hK => ?_, ?_⟩
  · skip
    obtain ⟨s5, r5, y5⟩ := hd 5 (by decide)
    replace y5 : y 5 = some true := y5 true r5
    replace s5 : b.tmps[192]? = some (vals 5) := s5
    rw [show vals 5 = _ from r5] at s5
    obtain ⟨s7, r7, y7⟩ := hd 7 (by decide)
    clear y7
    replace s7 : b.tmps[194]? = some (vals 7) := s7
    rw [show vals 7 = _ from r7] at s7
    go_simp
    exact hK.out _ _ ⟨rfl, Below.refl _ _, hI⟩
  refine ⟨fun b vals y w hI hf hd K hK => ?_, ?_⟩
  · skip
    obtain ⟨s5, r5, y5⟩ := hd 5 (by decide)
    replace y5 : y 5 = some true := y5 true r5
    replace s5 : b.tmps[192]? = some (vals 5) := s5
    rw [show vals 5 = _ from r5] at s5
    obtain ⟨s8, r8, y8⟩ := hd 8 (by decide)
    clear y8
    replace s8 : b.tmps[195]? = some (vals 8) := s8
    rw [show vals 8 = _ from r8] at s8
    go_simp
    exact hK.out _ _ ⟨rfl, Below.refl _ _, hI⟩
  refine ⟨fun b vals y w hI hf hd K hK => ?_, ?_⟩
  · skip
    obtain ⟨s9, r9, y9⟩ := hd 9 (by decide)
    clear y9
    replace s9 : b.tmps[196]? = some (vals 9) := s9
    rw [show vals 9 = _ from r9] at s9
    go_simp
    exact hK.out _ _ ⟨rfl, Below.refl _ _, hI⟩
  refine ⟨fun b vals y w hI hf hd K hK => ?_, ?_⟩
  · skip
    obtain ⟨f13, f14, -⟩ := hf
    replace f13 : b.tmps[13]? = _ := f13
    replace f14 : b.tmps[14]? = _ := f14
    obtain ⟨s10, r10, y10⟩ := hd 10 (by decide)
    replace y10 : y 10 = some true := y10 true r10
    replace s10 : b.tmps[197]? = some (vals 10) := s10
    rw [show vals 10 = _ from r10] at s10
    go_simp
    exact hK.out _ _ ⟨rfl, Below.refl _ _, hI⟩
  refine ⟨fun b vals y w hI hf hd K hK => ?_, ?_⟩
  · skip
    obtain ⟨s10, r10, y10⟩ := hd 10 (by decide)
    replace y10 : y 10 = some true := y10 true r10
    replace s10 : b.tmps[197]? = some (vals 10) := s10
    rw [show vals 10 = _ from r10] at s10
    obtain ⟨s11, r11, y11⟩ := hd 11 (by decide)
    clear y11
    replace s11 : b.tmps[198]? = some (vals 11) := s11
    rw [show vals 11 = _ from r11] at s11
    go_simp
    exact hK.out _ _ ⟨rfl, Below.refl _ _, hI⟩
  refine ⟨fun b vals y w hI hf hd K hK => ?_, ?_⟩
  · skip
    obtain ⟨s10, r10, y10⟩ := hd 10 (by decide)
    replace y10 : y 10 = some true := y10 true r10
    replace s10 : b.tmps[197]? = some (vals 10) := s10
    rw [show vals 10 = _ from r10] at s10
    obtain ⟨s12, r12, y12⟩ := hd 12 (by decide)
    clear y12
    replace s12 : b.tmps[199]? = some (vals 12) := s12
    rw [show vals 12 = _ from r12] at s12
    go_simp
    exact hK.out _ _ ⟨rfl, Below.refl _ _, hI⟩
  refine ⟨fun b vals y w hI hf hd K hK => ?_, ?_⟩
  · skip
    obtain ⟨s10, r10, y10⟩ := hd 10 (by decide)
    replace y10 : y 10 = some true := y10 true r10
    replace s10 : b.tmps[197]? = some (vals 10) := s10
    rw [show vals 10 = _ from r10] at s10
    obtain ⟨s13, r13, y13⟩ := hd 13 (by decide)
    clear y13
    replace s13 : b.tmps[200]? = some (vals 13) := s13
    rw [show vals 13 = _ from r13] at s13
    go_simp
    exact hK.out _ _ ⟨rfl, Below.refl _ _, hI⟩
  refine ⟨fun b vals y w hI hf hd K hK => ?_, ?_⟩
  · skip
    obtain ⟨s14, r14, y14⟩ := hd 14 (by decide)
    clear y14
    replace s14 : b.tmps[201]? = some (vals 14) := s14
    rw [show vals 14 = _ from r14] at s14
    go_simp
    exact hK.out _ _ ⟨rfl, Below.refl _ _, hI⟩
  exact trivial
set_option linter.unusedSimpArgs false in
set_option linter.unusedVariables false in
set_option maxRecDepth 100000 in
set_option maxHeartbeats 16000000 in
theorem sane_19 (w1 w5 w7 w18 : World) (g ba oa ca bb ob cb : Nat) (bw ow cw : Nat) (r : CR) (aw2 : Option Addr) (cw2 : Nat) (Aq : Option Addr) (cq : Nat) (Bq : Option Addr) (dq : Nat) (Q : Exit → Act → World → Prop) (HXC : Hid (∀ W, Below w18.heap.size w18 W → ExC W g ba oa ca bb ob cb)) (HV1 : Hid (∀ W, Below w18.heap.size w18 W → Calls Try.prog 24 #[.slice (some ⟨g, 0, none⟩) 2 2] W (fun e w' => e = .returned (.bool true) ∧ Below W.heap.size W w'))) (HV2 : Hid (∀ W, Below w18.heap.size w18 W → Calls Try.prog 24 #[.slice (some ⟨g, 2, none⟩) 1 1] W (fun e w' => e = .returned (.bool false) ∧ Below W.heap.size W w'))) (HP1 : Hid (∀ W, Below w18.heap.size w18 W → Calls Try.prog 31 #[mrV ⟨2, some ⟨bb, ob, none⟩, 2, cb⟩] W (fun e w' => e = .returned (.bool true) ∧ Below W.heap.size W w'))) (HP0 : Hid (∀ W, Below w18.heap.size w18 W → Calls Try.prog 31 #[mrV ⟨0, none, 0, 0⟩] W (fun e w' => e = .returned (.bool false) ∧ Below W.heap.size W w'))) (HVC : Hid (∀ W, Below w18.heap.size w18 W → Calls Try.prog 32 #[.slice (some ⟨g, 0, none⟩) 2 2, crV r] W (fun e w' => e = .returned (.bool true) ∧ Below W.heap.size W w'))) (HPC : Hid (∀ W, Below w18.heap.size w18 W → Calls Try.prog 33 #[crV r] W (fun e w' => e = .returned (.bool true) ∧ Below W.heap.size W w'))) (HPZ : Hid (∀ W, Below w18.heap.size w18 W → Calls Try.prog 33 #[crV zCR] W (fun e w' => e = .returned (.bool false) ∧ Below W.heap.size W w'))) (HSW : Hid (∀ W, Below w18.heap.size w18 W → Calls Try.prog 34 #[mrV ⟨2, aw2, 1, cw2⟩, mrV ⟨2, some ⟨w5.heap.size, 0, none⟩, 1, 1⟩] W (fun e w' => e = .returned (.bool true) ∧ Below W.heap.size W w'))) (HS0 : Hid (∀ W, Below w18.heap.size w18 W → Calls Try.prog 34 #[mrV ⟨1, some ⟨ba, oa, none⟩, 2, ca⟩, mrV ⟨2, some ⟨bb, ob, none⟩, 2, cb⟩] W (fun e w' => e = .returned (.bool false) ∧ Below W.heap.size W w'))) (HCC : Hid (∀ W, Below w18.heap.size w18 W → Calls Try.prog 35 #[crV r, crV r] W (fun e w' => e = .returned (.bool true) ∧ Below W.heap.size W w'))) (HCE : Hid (∀ W, Below w18.heap.size w18 W → Calls Try.prog 35 #[crV r, crV ⟨2004, 2, 1000, 1000, Aq, 1, cq, Bq, 0, dq⟩] W (fun e w' => e = .returned (.bool false) ∧ Below W.heap.size W w'))) (HLD : Hid (∀ W, Below w18.heap.size w18 W → Blk W w1.heap.size 45 (cC r) ∧ Blk W (w5.heap.size + 1) 27 [.int .i64 2, .slice (some ⟨w5.heap.size, 0, none⟩) 1 1] ∧ Blk W w7.heap.size 45 (cC ⟨2004, 2, 1000, 1000, Aq, 1, cq, Bq, 0, dq⟩) ∧ W.cell? ⟨bw, ow + 2, none⟩ = some (.int .i64 2) ∧ W.cell? ⟨bw, ow + 2 + 1, none⟩ = some (.slice aw2 1 cw2))) (l : List Oper) (hl : regL 19 = l) :
    StepsR Try.prog [some 211, some 212, some 213, some 214, some 215, some 216, some 217, some 218, some 219, some 220, some 221, some 222, some 223, some 224, some 225, some 226, some 227, some 228, some 229, some 230, some 231, some 232, some 233, some 234, some 235, some 236, some 237, some 238, some 239, some 240, some 241, some 242, some 243, some 244, some 245, some 246, some 247, some 248, some 249, some 250, some 251, some 252, some 253, some 254, some 255, some 256, some 257, some 258, some 259, some 260, some 261, some 262, some 263, some 264, some 265, some 266, some 267, some 268, some 269, some 270, some 271, some 272, some 273, some 274, some 275, some 276, some 277, some 278, some 279, some 280, some 281, some 282, some 283, some 0] [(1, .slice (some ⟨g, 0, none⟩) 2 2), (2, .pointer (some ⟨w1.heap.size, 0, none⟩)), (7, .pointer (some ⟨w5.heap.size + 1, 0, none⟩)), (8, .pointer (some ⟨w7.heap.size, 0, none⟩)), (16, .slice (some ⟨bw, ow, none⟩) 2 cw), (24, .bool true), (25, .bool true), (26, .bool true), (27, .bool true)] Q (fun _ w w' => Below w.heap.size w w') (fun w => Below w18.heap.size w18 w) (fun _ => []) (fun i _ v _ => sR19 g ba oa ca bb ob cb bw ow cw w1.heap.size w5.heap.size w7.heap.size r aw2 cw2 Aq cq Bq dq i v) l 0 := by
  subst hl
  conv => arg 9; whnf
  have hbI : ∀ {w w' : World}, Below w18.heap.size w18 w → Below w.heap.size w w' → Below w18.heap.size w18 w' := fun h k => bthen h k
  refine ⟨fun b vals y w hI hf hd K hK => ?_, ?_⟩
  · skip
    obtain ⟨-, -, -, -, -, f24, -, -, -, -⟩ := hf
    replace f24 : b.tmps[24]? = _ := f24
    clear hd
    go_simp
    exact hK.out _ _ ⟨rfl, Below.refl _ _, hI⟩
  refine ⟨fun b vals y w hI hf hd K hK => ?_, ?_⟩
  · skip
    clear hf
    obtain ⟨s0, r0, y0⟩ := hd 0 (by decide)
    replace s0 : b.tmps[211]? = some (vals 0) := s0
    clear y0
    rw [show vals 0 = _ from r0] at s0
    clear hd
    go_simp
    exact hK.out _ _ ⟨rfl, Below.refl _ _, hI⟩
  refine ⟨fun b vals y w hI hf hd K hK => ?_, ?_⟩
  · skip
    obtain ⟨-, -, -, -, -, -, f25, -, -, -⟩ := hf
    replace f25 : b.tmps[25]? = _ := f25
    obtain ⟨s1, r1, y1⟩ := hd 1 (by decide)
    replace s1 : b.tmps[212]? = some (vals 1) := s1
    replace y1 : y 1 = some true := y1 true r1
    rw [show vals 1 = _ from r1] at s1
    clear hd
    go_simp
    exact hK.out _ _ ⟨rfl, Below.refl _ _, hI⟩
  refine ⟨fun b vals y w hI hf hd K hK => ?_, ?_⟩
  · skip
    clear hf
    obtain ⟨s1, r1, y1⟩ := hd 1 (by decide)
    replace s1 : b.tmps[212]? = some (vals 1) := s1
    clear y1
    rw [show vals 1 = _ from r1] at s1
    obtain ⟨s2, r2, y2⟩ := hd 2 (by decide)
    replace s2 : b.tmps[213]? = some (vals 2) := s2
    clear y2
    rw [show vals 2 = _ from r2] at s2
    clear hd
    go_simp
    exact hK.out _ _ ⟨rfl, Below.refl _ _, hI⟩
  refine ⟨fun b vals y w hI hf hd K hK => ?_, ?_⟩
  · skip
    clear hf
    obtain ⟨s3, r3, y3⟩ := hd 3 (by decide)
    replace s3 : b.tmps[214]? = some (vals 3) := s3
    clear y3
    rw [show vals 3 = _ from r3] at s3
    clear hd
    go_simp
    exact hK.out _ _ ⟨rfl, Below.refl _ _, hI⟩
  refine ⟨fun b vals y w hI hf hd K hK => ?_, ?_⟩
  · skip
    obtain ⟨-, -, -, -, -, -, -, f26, -, -⟩ := hf
    replace f26 : b.tmps[26]? = _ := f26
    obtain ⟨s4, r4, y4⟩ := hd 4 (by decide)
    replace s4 : b.tmps[215]? = some (vals 4) := s4
    replace y4 : y 4 = some true := y4 true r4
    rw [show vals 4 = _ from r4] at s4
    clear hd
    go_simp
    exact hK.out _ _ ⟨rfl, Below.refl _ _, hI⟩
  refine ⟨fun b vals y w hI hf hd K hK => ?_, ?_⟩
  · skip
    clear hf
    obtain ⟨s4, r4, y4⟩ := hd 4 (by decide)
    replace s4 : b.tmps[215]? = some (vals 4) := s4
    clear y4
    rw [show vals 4 = _ from r4] at s4
    obtain ⟨s5, r5, y5⟩ := hd 5 (by decide)
    replace s5 : b.tmps[216]? = some (vals 5) := s5
    clear y5
    rw [show vals 5 = _ from r5] at s5
    clear hd
    go_simp
    exact hK.out _ _ ⟨rfl, Below.refl _ _, hI⟩
  refine ⟨fun b vals y w hI hf hd K hK => ?_, ?_⟩
  · skip
    clear hf
    obtain ⟨s6, r6, y6⟩ := hd 6 (by decide)
    replace s6 : b.tmps[217]? = some (vals 6) := s6
    clear y6
    rw [show vals 6 = _ from r6] at s6
    clear hd
    go_simp
    exact hK.out _ _ ⟨rfl, Below.refl _ _, hI⟩
  refine ⟨fun b vals y w hI hf hd K hK => ?_, ?_⟩
  · skip
    obtain ⟨-, -, -, -, -, -, -, -, f27, -⟩ := hf
    replace f27 : b.tmps[27]? = _ := f27
    obtain ⟨s7, r7, y7⟩ := hd 7 (by decide)
    replace s7 : b.tmps[218]? = some (vals 7) := s7
    replace y7 : y 7 = some true := y7 true r7
    rw [show vals 7 = _ from r7] at s7
    clear hd
    go_simp
    exact hK.out _ _ ⟨rfl, Below.refl _ _, hI⟩
  refine ⟨fun b vals y w hI hf hd K hK => ?_, ?_⟩
  · skip
    clear hf
    obtain ⟨s7, r7, y7⟩ := hd 7 (by decide)
    replace s7 : b.tmps[218]? = some (vals 7) := s7
    clear y7
    rw [show vals 7 = _ from r7] at s7
    obtain ⟨s8, r8, y8⟩ := hd 8 (by decide)
    replace s8 : b.tmps[219]? = some (vals 8) := s8
    clear y8
    rw [show vals 8 = _ from r8] at s8
    clear hd
    go_simp
    exact hK.out _ _ ⟨rfl, Below.refl _ _, hI⟩
  refine ⟨fun b vals y w hI hf hd K hK => ?_, ?_⟩
  · skip
    clear hf
    obtain ⟨s9, r9, y9⟩ := hd 9 (by decide)
    replace s9 : b.tmps[220]? = some (vals 9) := s9
    clear y9
    rw [show vals 9 = _ from r9] at s9
    clear hd
    go_simp
    exact hK.out _ _ ⟨rfl, Below.refl _ _, hI⟩
  refine ⟨fun b vals y w hI hf hd K hK => ?_, ?_⟩
  · skip
    obtain ⟨f1, -, -, -, -, -, -, -, -, -⟩ := hf
    replace f1 : b.tmps[1]? = _ := f1
    obtain ⟨s10, r10, y10⟩ := hd 10 (by decide)
    replace s10 : b.tmps[221]? = some (vals 10) := s10
    replace y10 : y 10 = some true := y10 true r10
    rw [show vals 10 = _ from r10] at s10
    clear hd
    go_simp
    exact hK.out _ _ ⟨rfl, Below.refl _ _, hI⟩
  refine ⟨fun b vals y w hI hf hd K hK => ?_, ?_⟩
  · skip
    clear hf
    obtain ⟨s10, r10, y10⟩ := hd 10 (by decide)
    replace s10 : b.tmps[221]? = some (vals 10) := s10
    replace y10 : y 10 = some true := y10 true r10
    rw [show vals 10 = _ from r10] at s10
    obtain ⟨s11, r11, y11⟩ := hd 11 (by decide)
    replace s11 : b.tmps[222]? = some (vals 11) := s11
    clear y11
    rw [show vals 11 = _ from r11] at s11
    clear hd
    have zc := HV1.out w hI
    go_simp
    refine zc.mono ?_
    rintro e w' ⟨rfl, hb'⟩
    exact hK.out _ _ ⟨rfl, hb', bthen hI hb'⟩
  refine ⟨fun b vals y w hI hf hd K hK => ?_, ?_⟩
  · skip
    clear hf
    obtain ⟨s10, r10, y10⟩ := hd 10 (by decide)
    replace s10 : b.tmps[221]? = some (vals 10) := s10
    clear y10
    rw [show vals 10 = _ from r10] at s10
    obtain ⟨s12, r12, y12⟩ := hd 12 (by decide)
    replace s12 : b.tmps[223]? = some (vals 12) := s12
    clear y12
    rw [show vals 12 = _ from r12] at s12
    clear hd
    go_simp
    exact hK.out _ _ ⟨rfl, Below.refl _ _, hI⟩
  refine ⟨fun b vals y w hI hf hd K hK => ?_, ?_⟩
  · skip
    clear hf
    obtain ⟨s13, r13, y13⟩ := hd 13 (by decide)
    replace s13 : b.tmps[224]? = some (vals 13) := s13
    clear y13
    rw [show vals 13 = _ from r13] at s13
    clear hd
    go_simp
    exact hK.out _ _ ⟨rfl, Below.refl _ _, hI⟩
  refine ⟨fun b vals y w hI hf hd K hK => ?_, ?_⟩
  · skip
    obtain ⟨f1, -, -, -, -, -, -, -, -, -⟩ := hf
    replace f1 : b.tmps[1]? = _ := f1
    obtain ⟨s14, r14, y14⟩ := hd 14 (by decide)
    replace s14 : b.tmps[225]? = some (vals 14) := s14
    replace y14 : y 14 = some true := y14 true r14
    rw [show vals 14 = _ from r14] at s14
    clear hd
    go_simp
    exact hK.out _ _ ⟨rfl, Below.refl _ _, hI⟩
  refine ⟨fun b vals y w hI hf hd K hK => ?_, ?_⟩
  · skip
    clear hf
    obtain ⟨s14, r14, y14⟩ := hd 14 (by decide)
    replace s14 : b.tmps[225]? = some (vals 14) := s14
    replace y14 : y 14 = some true := y14 true r14
    rw [show vals 14 = _ from r14] at s14
    obtain ⟨s15, r15, y15⟩ := hd 15 (by decide)
    replace s15 : b.tmps[226]? = some (vals 15) := s15
    clear y15
    rw [show vals 15 = _ from r15] at s15
    clear hd
    go_simp
    exact hK.out _ _ ⟨rfl, Below.refl _ _, hI⟩
  refine ⟨fun b vals y w hI hf hd K hK => ?_, ?_⟩
  · skip
    clear hf
    obtain ⟨s14, r14, y14⟩ := hd 14 (by decide)
    replace s14 : b.tmps[225]? = some (vals 14) := s14
    replace y14 : y 14 = some true := y14 true r14
    rw [show vals 14 = _ from r14] at s14
    obtain ⟨s16, r16, y16⟩ := hd 16 (by decide)
    replace s16 : b.tmps[227]? = some (vals 16) := s16
    clear y16
    rw [show vals 16 = _ from r16] at s16
    clear hd
    have zc := HV2.out w hI
    go_simp
    refine zc.mono ?_
    rintro e w' ⟨rfl, hb'⟩
    exact hK.out _ _ ⟨rfl, hb', bthen hI hb'⟩
  refine ⟨fun b vals y w hI hf hd K hK => ?_, ?_⟩
  · skip
    clear hf
    obtain ⟨s14, r14, y14⟩ := hd 14 (by decide)
    replace s14 : b.tmps[225]? = some (vals 14) := s14
    replace y14 : y 14 = some true := y14 true r14
    rw [show vals 14 = _ from r14] at s14
    obtain ⟨s17, r17, y17⟩ := hd 17 (by decide)
    replace s17 : b.tmps[228]? = some (vals 17) := s17
    clear y17
    rw [show vals 17 = _ from r17] at s17
    clear hd
    go_simp
    exact hK.out _ _ ⟨rfl, Below.refl _ _, hI⟩
  refine ⟨fun b vals y w hI hf hd K hK => ?_, ?_⟩
  · skip
    clear hf
    obtain ⟨s14, r14, y14⟩ := hd 14 (by decide)
    replace s14 : b.tmps[225]? = some (vals 14) := s14
    clear y14
    rw [show vals 14 = _ from r14] at s14
    obtain ⟨s18, r18, y18⟩ := hd 18 (by decide)
    replace s18 : b.tmps[229]? = some (vals 18) := s18
    clear y18
    rw [show vals 18 = _ from r18] at s18
    clear hd
    go_simp
    exact hK.out _ _ ⟨rfl, Below.refl _ _, hI⟩
  refine ⟨fun b vals y w hI hf hd K hK => ?_, ?_⟩
  · skip
    clear hf
    obtain ⟨s19, r19, y19⟩ := hd 19 (by decide)
    replace s19 : b.tmps[230]? = some (vals 19) := s19
    clear y19
    rw [show vals 19 = _ from r19] at s19
    clear hd
    go_simp
    exact hK.out _ _ ⟨rfl, Below.refl _ _, hI⟩
  refine ⟨fun b vals y w hI hf hd K hK => ?_, ?_⟩
  · skip
    obtain ⟨f1, -, -, -, -, -, -, -, -, -⟩ := hf
    replace f1 : b.tmps[1]? = _ := f1
    obtain ⟨s20, r20, y20⟩ := hd 20 (by decide)
    replace s20 : b.tmps[231]? = some (vals 20) := s20
    replace y20 : y 20 = some true := y20 true r20
    rw [show vals 20 = _ from r20] at s20
    clear hd
    go_simp
    exact hK.out _ _ ⟨rfl, Below.refl _ _, hI⟩
  refine ⟨fun b vals y w hI hf hd K hK => ?_, ?_⟩
  · skip
    clear hf
    obtain ⟨s20, r20, y20⟩ := hd 20 (by decide)
    replace s20 : b.tmps[231]? = some (vals 20) := s20
    replace y20 : y 20 = some true := y20 true r20
    rw [show vals 20 = _ from r20] at s20
    obtain ⟨s21, r21, y21⟩ := hd 21 (by decide)
    replace s21 : b.tmps[232]? = some (vals 21) := s21
    clear y21
    rw [show vals 21 = _ from r21] at s21
    clear hd
    go_simp
    exact hK.out _ _ ⟨rfl, Below.refl _ _, hI⟩
  refine ⟨fun b vals y w hI hf hd K hK => ?_, ?_⟩
  · skip
    clear hf
    obtain ⟨s20, r20, y20⟩ := hd 20 (by decide)
    replace s20 : b.tmps[231]? = some (vals 20) := s20
    replace y20 : y 20 = some true := y20 true r20
    rw [show vals 20 = _ from r20] at s20
    obtain ⟨s22, r22, y22⟩ := hd 22 (by decide)
    replace s22 : b.tmps[233]? = some (vals 22) := s22
    clear y22
    rw [show vals 22 = _ from r22] at s22
    clear hd
    have z := HXC.out w hI
    have z0 := z.c2
    have z1 := z.c3
    clear z
    go_simp
    exact hK.out _ _ ⟨rfl, Below.refl _ _, hI⟩
  refine ⟨fun b vals y w hI hf hd K hK => ?_, ?_⟩
  · skip
    clear hf
    obtain ⟨s20, r20, y20⟩ := hd 20 (by decide)
    replace s20 : b.tmps[231]? = some (vals 20) := s20
    replace y20 : y 20 = some true := y20 true r20
    rw [show vals 20 = _ from r20] at s20
    obtain ⟨s23, r23, y23⟩ := hd 23 (by decide)
    replace s23 : b.tmps[234]? = some (vals 23) := s23
    clear y23
    rw [show vals 23 = _ from r23] at s23
    clear hd
    have zc := HP1.out w hI
    go_simp
    refine zc.mono ?_
    rintro e w' ⟨rfl, hb'⟩
    exact hK.out _ _ ⟨rfl, hb', bthen hI hb'⟩
  refine ⟨fun b vals y w hI hf hd K hK => ?_, ?_⟩
  · skip
    clear hf
    obtain ⟨s20, r20, y20⟩ := hd 20 (by decide)
    replace s20 : b.tmps[231]? = some (vals 20) := s20
    clear y20
    rw [show vals 20 = _ from r20] at s20
    obtain ⟨s24, r24, y24⟩ := hd 24 (by decide)
    replace s24 : b.tmps[235]? = some (vals 24) := s24
    clear y24
    rw [show vals 24 = _ from r24] at s24
    clear hd
    go_simp
    exact hK.out _ _ ⟨rfl, Below.refl _ _, hI⟩
  refine ⟨fun b vals y w hI hf hd K hK => ?_, ?_⟩
  · skip
    clear hf
    obtain ⟨s25, r25, y25⟩ := hd 25 (by decide)
    replace s25 : b.tmps[236]? = some (vals 25) := s25
    clear y25
    rw [show vals 25 = _ from r25] at s25
    clear hd
    go_simp
    exact hK.out _ _ ⟨rfl, Below.refl _ _, hI⟩
  refine ⟨fun b vals y w hI hf hd K hK => ?_, ?_⟩
  · skip
    clear hf
    obtain ⟨s26, r26, y26⟩ := hd 26 (by decide)
    replace s26 : b.tmps[237]? = some (vals 26) := s26
    replace y26 : y 26 = some true := y26 true r26
    rw [show vals 26 = _ from r26] at s26
    clear hd
    go_simp
    exact hK.out _ _ ⟨rfl, Below.refl _ _, hI⟩
  refine ⟨fun b vals y w hI hf hd K hK => ?_, ?_⟩
  · skip
    clear hf
    obtain ⟨s26, r26, y26⟩ := hd 26 (by decide)
    replace s26 : b.tmps[237]? = some (vals 26) := s26
    replace y26 : y 26 = some true := y26 true r26
    rw [show vals 26 = _ from r26] at s26
    obtain ⟨s27, r27, y27⟩ := hd 27 (by decide)
    replace s27 : b.tmps[238]? = some (vals 27) := s27
    clear y27
    rw [show vals 27 = _ from r27] at s27
    clear hd
    have zc := HP0.out w hI
    go_simp
    refine zc.mono ?_
    rintro e w' ⟨rfl, hb'⟩
    exact hK.out _ _ ⟨rfl, hb', bthen hI hb'⟩
  refine ⟨fun b vals y w hI hf hd K hK => ?_, ?_⟩
  · skip
    clear hf
    obtain ⟨s26, r26, y26⟩ := hd 26 (by decide)
    replace s26 : b.tmps[237]? = some (vals 26) := s26
    replace y26 : y 26 = some true := y26 true r26
    rw [show vals 26 = _ from r26] at s26
    obtain ⟨s28, r28, y28⟩ := hd 28 (by decide)
    replace s28 : b.tmps[239]? = some (vals 28) := s28
    clear y28
    rw [show vals 28 = _ from r28] at s28
    clear hd
    go_simp
    exact hK.out _ _ ⟨rfl, Below.refl _ _, hI⟩
  refine ⟨fun b vals y w hI hf hd K hK => ?_, ?_⟩
  · skip
    clear hf
    obtain ⟨s26, r26, y26⟩ := hd 26 (by decide)
    replace s26 : b.tmps[237]? = some (vals 26) := s26
    clear y26
    rw [show vals 26 = _ from r26] at s26
    obtain ⟨s29, r29, y29⟩ := hd 29 (by decide)
    replace s29 : b.tmps[240]? = some (vals 29) := s29
    clear y29
    rw [show vals 29 = _ from r29] at s29
    clear hd
    go_simp
    exact hK.out _ _ ⟨rfl, Below.refl _ _, hI⟩
  refine ⟨fun b vals y w hI hf hd K hK => ?_, ?_⟩
  · skip
    clear hf
    obtain ⟨s30, r30, y30⟩ := hd 30 (by decide)
    replace s30 : b.tmps[241]? = some (vals 30) := s30
    clear y30
    rw [show vals 30 = _ from r30] at s30
    clear hd
    go_simp
    exact hK.out _ _ ⟨rfl, Below.refl _ _, hI⟩
  refine ⟨fun b vals y w hI hf hd K hK => ?_, ?_⟩
  · skip
    obtain ⟨f1, -, -, -, -, -, -, -, -, -⟩ := hf
    replace f1 : b.tmps[1]? = _ := f1
    obtain ⟨s31, r31, y31⟩ := hd 31 (by decide)
    replace s31 : b.tmps[242]? = some (vals 31) := s31
    replace y31 : y 31 = some true := y31 true r31
    rw [show vals 31 = _ from r31] at s31
    clear hd
    go_simp
    exact hK.out _ _ ⟨rfl, Below.refl _ _, hI⟩
  refine ⟨fun b vals y w hI hf hd K hK => ?_, ?_⟩
  · skip
    obtain ⟨-, f2, -, -, -, -, -, -, -, -⟩ := hf
    replace f2 : b.tmps[2]? = _ := f2
    obtain ⟨s31, r31, y31⟩ := hd 31 (by decide)
    replace s31 : b.tmps[242]? = some (vals 31) := s31
    replace y31 : y 31 = some true := y31 true r31
    rw [show vals 31 = _ from r31] at s31
    clear hd
    obtain ⟨z, -⟩ := HLD.out w hI
    obtain ⟨z0, z1, z2, z3, z4, z5⟩ := z.allC
    clear z
    go_simp
    exact hK.out _ _ ⟨rfl, Below.refl _ _, hI⟩
  refine ⟨fun b vals y w hI hf hd K hK => ?_, ?_⟩
  · skip
    clear hf
    obtain ⟨s31, r31, y31⟩ := hd 31 (by decide)
    replace s31 : b.tmps[242]? = some (vals 31) := s31
    replace y31 : y 31 = some true := y31 true r31
    rw [show vals 31 = _ from r31] at s31
    obtain ⟨s32, r32, y32⟩ := hd 32 (by decide)
    replace s32 : b.tmps[243]? = some (vals 32) := s32
    clear y32
    rw [show vals 32 = _ from r32] at s32
    obtain ⟨s33, r33, y33⟩ := hd 33 (by decide)
    replace s33 : b.tmps[244]? = some (vals 33) := s33
    clear y33
    rw [show vals 33 = _ from r33] at s33
    clear hd
    have zc := HVC.out w hI
    go_simp
    refine zc.mono ?_
    rintro e w' ⟨rfl, hb'⟩
    exact hK.out _ _ ⟨rfl, hb', bthen hI hb'⟩
  refine ⟨fun b vals y w hI hf hd K hK => ?_, ?_⟩
  · skip
    clear hf
    obtain ⟨s31, r31, y31⟩ := hd 31 (by decide)
    replace s31 : b.tmps[242]? = some (vals 31) := s31
    clear y31
    rw [show vals 31 = _ from r31] at s31
    obtain ⟨s34, r34, y34⟩ := hd 34 (by decide)
    replace s34 : b.tmps[245]? = some (vals 34) := s34
    clear y34
    rw [show vals 34 = _ from r34] at s34
    clear hd
    go_simp
    exact hK.out _ _ ⟨rfl, Below.refl _ _, hI⟩
  refine ⟨fun b vals y w hI hf hd K hK => ?_, ?_⟩
  · skip
    clear hf
    obtain ⟨s35, r35, y35⟩ := hd 35 (by decide)
    replace s35 : b.tmps[246]? = some (vals 35) := s35
    clear y35
    rw [show vals 35 = _ from r35] at s35
    clear hd
    go_simp
    exact hK.out _ _ ⟨rfl, Below.refl _ _, hI⟩
  refine ⟨fun b vals y w hI hf hd K hK => ?_, ?_⟩
  · skip
    obtain ⟨-, f2, -, -, -, -, -, -, -, -⟩ := hf
    replace f2 : b.tmps[2]? = _ := f2
    obtain ⟨s36, r36, y36⟩ := hd 36 (by decide)
    replace s36 : b.tmps[247]? = some (vals 36) := s36
    replace y36 : y 36 = some true := y36 true r36
    rw [show vals 36 = _ from r36] at s36
    clear hd
    obtain ⟨z, -⟩ := HLD.out w hI
    obtain ⟨z0, z1, z2, z3, z4, z5⟩ := z.allC
    clear z
    go_simp
    exact hK.out _ _ ⟨rfl, Below.refl _ _, hI⟩
  refine ⟨fun b vals y w hI hf hd K hK => ?_, ?_⟩
  · skip
    clear hf
    obtain ⟨s36, r36, y36⟩ := hd 36 (by decide)
    replace s36 : b.tmps[247]? = some (vals 36) := s36
    replace y36 : y 36 = some true := y36 true r36
    rw [show vals 36 = _ from r36] at s36
    obtain ⟨s37, r37, y37⟩ := hd 37 (by decide)
    replace s37 : b.tmps[248]? = some (vals 37) := s37
    clear y37
    rw [show vals 37 = _ from r37] at s37
    clear hd
    have zc := HPC.out w hI
    go_simp
    refine zc.mono ?_
    rintro e w' ⟨rfl, hb'⟩
    exact hK.out _ _ ⟨rfl, hb', bthen hI hb'⟩
  refine ⟨fun b vals y w hI hf hd K hK => ?_, ?_⟩
  · skip
    clear hf
    obtain ⟨s36, r36, y36⟩ := hd 36 (by decide)
    replace s36 : b.tmps[247]? = some (vals 36) := s36
    clear y36
    rw [show vals 36 = _ from r36] at s36
    obtain ⟨s38, r38, y38⟩ := hd 38 (by decide)
    replace s38 : b.tmps[249]? = some (vals 38) := s38
    clear y38
    rw [show vals 38 = _ from r38] at s38
    clear hd
    go_simp
    exact hK.out _ _ ⟨rfl, Below.refl _ _, hI⟩
  refine ⟨fun b vals y w hI hf hd K hK => ?_, ?_⟩
  · skip
    clear hf
    obtain ⟨s39, r39, y39⟩ := hd 39 (by decide)
    replace s39 : b.tmps[250]? = some (vals 39) := s39
    clear y39
    rw [show vals 39 = _ from r39] at s39
    clear hd
    go_simp
    exact hK.out _ _ ⟨rfl, Below.refl _ _, hI⟩
  refine ⟨fun b vals y w hI hf hd K hK => ?_, ?_⟩
  · skip
    clear hf
    obtain ⟨s40, r40, y40⟩ := hd 40 (by decide)
    replace s40 : b.tmps[251]? = some (vals 40) := s40
    replace y40 : y 40 = some true := y40 true r40
    rw [show vals 40 = _ from r40] at s40
    clear hd
    go_simp
    exact hK.out _ _ ⟨rfl, Below.refl _ _, hI⟩
  refine ⟨fun b vals y w hI hf hd K hK => ?_, ?_⟩
  · skip
    clear hf
    obtain ⟨s40, r40, y40⟩ := hd 40 (by decide)
    replace s40 : b.tmps[251]? = some (vals 40) := s40
    replace y40 : y 40 = some true := y40 true r40
    rw [show vals 40 = _ from r40] at s40
    obtain ⟨s41, r41, y41⟩ := hd 41 (by decide)
    replace s41 : b.tmps[252]? = some (vals 41) := s41
    clear y41
    rw [show vals 41 = _ from r41] at s41
    clear hd
    have zc := HPZ.out w hI
    go_simp
    refine zc.mono ?_
    rintro e w' ⟨rfl, hb'⟩
    exact hK.out _ _ ⟨rfl, hb', bthen hI hb'⟩
  refine ⟨fun b vals y w hI hf hd K hK => ?_, ?_⟩
  · skip
    clear hf
    obtain ⟨s40, r40, y40⟩ := hd 40 (by decide)
    replace s40 : b.tmps[251]? = some (vals 40) := s40
    replace y40 : y 40 = some true := y40 true r40
    rw [show vals 40 = _ from r40] at s40
    obtain ⟨s42, r42, y42⟩ := hd 42 (by decide)
    replace s42 : b.tmps[253]? = some (vals 42) := s42
    clear y42
    rw [show vals 42 = _ from r42] at s42
    clear hd
    go_simp
    exact hK.out _ _ ⟨rfl, Below.refl _ _, hI⟩
  refine ⟨fun b vals y w hI hf hd K hK => ?_, ?_⟩
  · skip
    clear hf
    obtain ⟨s40, r40, y40⟩ := hd 40 (by decide)
    replace s40 : b.tmps[251]? = some (vals 40) := s40
    clear y40
    rw [show vals 40 = _ from r40] at s40
    obtain ⟨s43, r43, y43⟩ := hd 43 (by decide)
    replace s43 : b.tmps[254]? = some (vals 43) := s43
    clear y43
    rw [show vals 43 = _ from r43] at s43
    clear hd
    go_simp
    exact hK.out _ _ ⟨rfl, Below.refl _ _, hI⟩
  refine ⟨fun b vals y w hI hf hd K hK => ?_, ?_⟩
  · skip
    clear hf
    obtain ⟨s44, r44, y44⟩ := hd 44 (by decide)
    replace s44 : b.tmps[255]? = some (vals 44) := s44
    clear y44
    rw [show vals 44 = _ from r44] at s44
    clear hd
    go_simp
    exact hK.out _ _ ⟨rfl, Below.refl _ _, hI⟩
  refine ⟨fun b vals y w hI hf hd K hK => ?_, ?_⟩
  · skip
    obtain ⟨-, -, -, -, f16, -, -, -, -, -⟩ := hf
    replace f16 : b.tmps[16]? = _ := f16
    obtain ⟨s45, r45, y45⟩ := hd 45 (by decide)
    replace s45 : b.tmps[256]? = some (vals 45) := s45
    replace y45 : y 45 = some true := y45 true r45
    rw [show vals 45 = _ from r45] at s45
    clear hd
    go_simp
    exact hK.out _ _ ⟨rfl, Below.refl _ _, hI⟩
  refine ⟨fun b vals y w hI hf hd K hK => ?_, ?_⟩
  · skip
    clear hf
    obtain ⟨s45, r45, y45⟩ := hd 45 (by decide)
    replace s45 : b.tmps[256]? = some (vals 45) := s45
    replace y45 : y 45 = some true := y45 true r45
    rw [show vals 45 = _ from r45] at s45
    obtain ⟨s46, r46, y46⟩ := hd 46 (by decide)
    replace s46 : b.tmps[257]? = some (vals 46) := s46
    clear y46
    rw [show vals 46 = _ from r46] at s46
    clear hd
    go_simp
    exact hK.out _ _ ⟨rfl, Below.refl _ _, hI⟩
  refine ⟨fun b vals y w hI hf hd K hK => ?_, ?_⟩
  · skip
    clear hf
    obtain ⟨s45, r45, y45⟩ := hd 45 (by decide)
    replace s45 : b.tmps[256]? = some (vals 45) := s45
    replace y45 : y 45 = some true := y45 true r45
    rw [show vals 45 = _ from r45] at s45
    obtain ⟨s47, r47, y47⟩ := hd 47 (by decide)
    replace s47 : b.tmps[258]? = some (vals 47) := s47
    clear y47
    rw [show vals 47 = _ from r47] at s47
    clear hd
    obtain ⟨-, -, -, z0, z1⟩ := HLD.out w hI
    go_simp
    exact hK.out _ _ ⟨rfl, Below.refl _ _, hI⟩
  refine ⟨fun b vals y w hI hf hd K hK => ?_, ?_⟩
  · skip
    obtain ⟨-, -, f7, -, -, -, -, -, -, -⟩ := hf
    replace f7 : b.tmps[7]? = _ := f7
    obtain ⟨s45, r45, y45⟩ := hd 45 (by decide)
    replace s45 : b.tmps[256]? = some (vals 45) := s45
    replace y45 : y 45 = some true := y45 true r45
    rw [show vals 45 = _ from r45] at s45
    clear hd
    obtain ⟨-, z, -⟩ := HLD.out w hI
    obtain ⟨z0, z1⟩ := z.two
    clear z
    go_simp
    exact hK.out _ _ ⟨rfl, Below.refl _ _, hI⟩
  refine ⟨fun b vals y w hI hf hd K hK => ?_, ?_⟩
  · skip
    clear hf
    obtain ⟨s45, r45, y45⟩ := hd 45 (by decide)
    replace s45 : b.tmps[256]? = some (vals 45) := s45
    replace y45 : y 45 = some true := y45 true r45
    rw [show vals 45 = _ from r45] at s45
    obtain ⟨s48, r48, y48⟩ := hd 48 (by decide)
    replace s48 : b.tmps[259]? = some (vals 48) := s48
    clear y48
    rw [show vals 48 = _ from r48] at s48
    obtain ⟨s49, r49, y49⟩ := hd 49 (by decide)
    replace s49 : b.tmps[260]? = some (vals 49) := s49
    clear y49
    rw [show vals 49 = _ from r49] at s49
    clear hd
    have zc := HSW.out w hI
    go_simp
    refine zc.mono ?_
    rintro e w' ⟨rfl, hb'⟩
    exact hK.out _ _ ⟨rfl, hb', bthen hI hb'⟩
  refine ⟨fun b vals y w hI hf hd K hK => ?_, ?_⟩
  · skip
    clear hf
    obtain ⟨s45, r45, y45⟩ := hd 45 (by decide)
    replace s45 : b.tmps[256]? = some (vals 45) := s45
    clear y45
    rw [show vals 45 = _ from r45] at s45
    obtain ⟨s50, r50, y50⟩ := hd 50 (by decide)
    replace s50 : b.tmps[261]? = some (vals 50) := s50
    clear y50
    rw [show vals 50 = _ from r50] at s50
    clear hd
    go_simp
    exact hK.out _ _ ⟨rfl, Below.refl _ _, hI⟩
  refine ⟨fun b vals y w hI hf hd K hK => ?_, ?_⟩
  · skip
    clear hf
    obtain ⟨s51, r51, y51⟩ := hd 51 (by decide)
    replace s51 : b.tmps[262]? = some (vals 51) := s51
    clear y51
    rw [show vals 51 = _ from r51] at s51
    clear hd
    go_simp
    exact hK.out _ _ ⟨rfl, Below.refl _ _, hI⟩
  refine ⟨fun b vals y w hI hf hd K hK => ?_, ?_⟩
  · skip
    obtain ⟨f1, -, -, -, -, -, -, -, -, -⟩ := hf
    replace f1 : b.tmps[1]? = _ := f1
    obtain ⟨s52, r52, y52⟩ := hd 52 (by decide)
    replace s52 : b.tmps[263]? = some (vals 52) := s52
    replace y52 : y 52 = some true := y52 true r52
    rw [show vals 52 = _ from r52] at s52
    clear hd
    go_simp
    exact hK.out _ _ ⟨rfl, Below.refl _ _, hI⟩
  refine ⟨fun b vals y w hI hf hd K hK => ?_, ?_⟩
  · skip
    clear hf
    obtain ⟨s52, r52, y52⟩ := hd 52 (by decide)
    replace s52 : b.tmps[263]? = some (vals 52) := s52
    replace y52 : y 52 = some true := y52 true r52
    rw [show vals 52 = _ from r52] at s52
    obtain ⟨s53, r53, y53⟩ := hd 53 (by decide)
    replace s53 : b.tmps[264]? = some (vals 53) := s53
    clear y53
    rw [show vals 53 = _ from r53] at s53
    clear hd
    go_simp
    exact hK.out _ _ ⟨rfl, Below.refl _ _, hI⟩
  refine ⟨fun b vals y w hI hf hd K hK => ?_, ?_⟩
  · skip
    clear hf
    obtain ⟨s52, r52, y52⟩ := hd 52 (by decide)
    replace s52 : b.tmps[263]? = some (vals 52) := s52
    replace y52 : y 52 = some true := y52 true r52
    rw [show vals 52 = _ from r52] at s52
    obtain ⟨s54, r54, y54⟩ := hd 54 (by decide)
    replace s54 : b.tmps[265]? = some (vals 54) := s54
    clear y54
    rw [show vals 54 = _ from r54] at s54
    clear hd
    have z := HXC.out w hI
    have z0 := z.c0
    have z1 := z.c1
    clear z
    go_simp
    exact hK.out _ _ ⟨rfl, Below.refl _ _, hI⟩
  refine ⟨fun b vals y w hI hf hd K hK => ?_, ?_⟩
  · skip
    obtain ⟨f1, -, -, -, -, -, -, -, -, -⟩ := hf
    replace f1 : b.tmps[1]? = _ := f1
    obtain ⟨s52, r52, y52⟩ := hd 52 (by decide)
    replace s52 : b.tmps[263]? = some (vals 52) := s52
    replace y52 : y 52 = some true := y52 true r52
    rw [show vals 52 = _ from r52] at s52
    clear hd
    go_simp
    exact hK.out _ _ ⟨rfl, Below.refl _ _, hI⟩
  refine ⟨fun b vals y w hI hf hd K hK => ?_, ?_⟩
  · skip
    clear hf
    obtain ⟨s52, r52, y52⟩ := hd 52 (by decide)
    replace s52 : b.tmps[263]? = some (vals 52) := s52
    replace y52 : y 52 = some true := y52 true r52
    rw [show vals 52 = _ from r52] at s52
    obtain ⟨s56, r56, y56⟩ := hd 56 (by decide)
    replace s56 : b.tmps[267]? = some (vals 56) := s56
    clear y56
    rw [show vals 56 = _ from r56] at s56
    clear hd
    go_simp
    exact hK.out _ _ ⟨rfl, Below.refl _ _, hI⟩
  refine ⟨fun b vals y w hI hf hd K hK => ?_, ?_⟩
  · skip
    clear hf
    obtain ⟨s52, r52, y52⟩ := hd 52 (by decide)
    replace s52 : b.tmps[263]? = some (vals 52) := s52
    replace y52 : y 52 = some true := y52 true r52
    rw [show vals 52 = _ from r52] at s52
    obtain ⟨s57, r57, y57⟩ := hd 57 (by decide)
    replace s57 : b.tmps[268]? = some (vals 57) := s57
    clear y57
    rw [show vals 57 = _ from r57] at s57
    clear hd
    have z := HXC.out w hI
    have z0 := z.c2
    have z1 := z.c3
    clear z
    go_simp
    exact hK.out _ _ ⟨rfl, Below.refl _ _, hI⟩
  refine ⟨fun b vals y w hI hf hd K hK => ?_, ?_⟩
  · skip
    clear hf
    obtain ⟨s52, r52, y52⟩ := hd 52 (by decide)
    replace s52 : b.tmps[263]? = some (vals 52) := s52
    replace y52 : y 52 = some true := y52 true r52
    rw [show vals 52 = _ from r52] at s52
    obtain ⟨s55, r55, y55⟩ := hd 55 (by decide)
    replace s55 : b.tmps[266]? = some (vals 55) := s55
    clear y55
    rw [show vals 55 = _ from r55] at s55
    obtain ⟨s58, r58, y58⟩ := hd 58 (by decide)
    replace s58 : b.tmps[269]? = some (vals 58) := s58
    clear y58
    rw [show vals 58 = _ from r58] at s58
    clear hd
    have zc := HS0.out w hI
    go_simp
    refine zc.mono ?_
    rintro e w' ⟨rfl, hb'⟩
    exact hK.out _ _ ⟨rfl, hb', bthen hI hb'⟩
  refine ⟨fun b vals y w hI hf hd K hK => ?_, ?_⟩
  · skip
    clear hf
    obtain ⟨s52, r52, y52⟩ := hd 52 (by decide)
    replace s52 : b.tmps[263]? = some (vals 52) := s52
    replace y52 : y 52 = some true := y52 true r52
    rw [show vals 52 = _ from r52] at s52
    obtain ⟨s59, r59, y59⟩ := hd 59 (by decide)
    replace s59 : b.tmps[270]? = some (vals 59) := s59
    clear y59
    rw [show vals 59 = _ from r59] at s59
    clear hd
    go_simp
    exact hK.out _ _ ⟨rfl, Below.refl _ _, hI⟩
  refine ⟨fun b vals y w hI hf hd K hK => ?_, ?_⟩
  · skip
    clear hf
    obtain ⟨s52, r52, y52⟩ := hd 52 (by decide)
    replace s52 : b.tmps[263]? = some (vals 52) := s52
    clear y52
    rw [show vals 52 = _ from r52] at s52
    obtain ⟨s60, r60, y60⟩ := hd 60 (by decide)
    replace s60 : b.tmps[271]? = some (vals 60) := s60
    clear y60
    rw [show vals 60 = _ from r60] at s60
    clear hd
    go_simp
    exact hK.out _ _ ⟨rfl, Below.refl _ _, hI⟩
  refine ⟨fun b vals y w hI hf hd K hK => ?_, ?_⟩
  · skip
    clear hf
    obtain ⟨s61, r61, y61⟩ := hd 61 (by decide)
    replace s61 : b.tmps[272]? = some (vals 61) := s61
    clear y61
    rw [show vals 61 = _ from r61] at s61
    clear hd
    go_simp
    exact hK.out _ _ ⟨rfl, Below.refl _ _, hI⟩
  refine ⟨fun b vals y w hI hf hd K hK => ?_, ?_⟩
  · skip
    obtain ⟨-, f2, -, -, -, -, -, -, -, -⟩ := hf
    replace f2 : b.tmps[2]? = _ := f2
    obtain ⟨s62, r62, y62⟩ := hd 62 (by decide)
    replace s62 : b.tmps[273]? = some (vals 62) := s62
    replace y62 : y 62 = some true := y62 true r62
    rw [show vals 62 = _ from r62] at s62
    clear hd
    obtain ⟨z, -⟩ := HLD.out w hI
    obtain ⟨z0, z1, z2, z3, z4, z5⟩ := z.allC
    clear z
    go_simp
    exact hK.out _ _ ⟨rfl, Below.refl _ _, hI⟩
  refine ⟨fun b vals y w hI hf hd K hK => ?_, ?_⟩
  · skip
    obtain ⟨-, f2, -, -, -, -, -, -, -, -⟩ := hf
    replace f2 : b.tmps[2]? = _ := f2
    obtain ⟨s62, r62, y62⟩ := hd 62 (by decide)
    replace s62 : b.tmps[273]? = some (vals 62) := s62
    replace y62 : y 62 = some true := y62 true r62
    rw [show vals 62 = _ from r62] at s62
    clear hd
    obtain ⟨z, -⟩ := HLD.out w hI
    obtain ⟨z0, z1, z2, z3, z4, z5⟩ := z.allC
    clear z
    go_simp
    exact hK.out _ _ ⟨rfl, Below.refl _ _, hI⟩
  refine ⟨fun b vals y w hI hf hd K hK => ?_, ?_⟩
  · skip
    clear hf
    obtain ⟨s62, r62, y62⟩ := hd 62 (by decide)
    replace s62 : b.tmps[273]? = some (vals 62) := s62
    replace y62 : y 62 = some true := y62 true r62
    rw [show vals 62 = _ from r62] at s62
    obtain ⟨s63, r63, y63⟩ := hd 63 (by decide)
    replace s63 : b.tmps[274]? = some (vals 63) := s63
    clear y63
    rw [show vals 63 = _ from r63] at s63
    obtain ⟨s64, r64, y64⟩ := hd 64 (by decide)
    replace s64 : b.tmps[275]? = some (vals 64) := s64
    clear y64
    rw [show vals 64 = _ from r64] at s64
    clear hd
    have zc := HCC.out w hI
    go_simp
    refine zc.mono ?_
    rintro e w' ⟨rfl, hb'⟩
    exact hK.out _ _ ⟨rfl, hb', bthen hI hb'⟩
  refine ⟨fun b vals y w hI hf hd K hK => ?_, ?_⟩
  · skip
    clear hf
    obtain ⟨s62, r62, y62⟩ := hd 62 (by decide)
    replace s62 : b.tmps[273]? = some (vals 62) := s62
    clear y62
    rw [show vals 62 = _ from r62] at s62
    obtain ⟨s65, r65, y65⟩ := hd 65 (by decide)
    replace s65 : b.tmps[276]? = some (vals 65) := s65
    clear y65
    rw [show vals 65 = _ from r65] at s65
    clear hd
    go_simp
    exact hK.out _ _ ⟨rfl, Below.refl _ _, hI⟩
  refine ⟨fun b vals y w hI hf hd K hK => ?_, ?_⟩
  · skip
    clear hf
    obtain ⟨s66, r66, y66⟩ := hd 66 (by decide)
    replace s66 : b.tmps[277]? = some (vals 66) := s66
    clear y66
    rw [show vals 66 = _ from r66] at s66
    clear hd
    go_simp
    exact hK.out _ _ ⟨rfl, Below.refl _ _, hI⟩
  refine ⟨fun b vals y w hI hf hd K hK => ?_, ?_⟩
  · skip
    obtain ⟨-, f2, -, -, -, -, -, -, -, -⟩ := hf
    replace f2 : b.tmps[2]? = _ := f2
    obtain ⟨s67, r67, y67⟩ := hd 67 (by decide)
    replace s67 : b.tmps[278]? = some (vals 67) := s67
    replace y67 : y 67 = some true := y67 true r67
    rw [show vals 67 = _ from r67] at s67
    clear hd
    obtain ⟨z, -⟩ := HLD.out w hI
    obtain ⟨z0, z1, z2, z3, z4, z5⟩ := z.allC
    clear z
    go_simp
    exact hK.out _ _ ⟨rfl, Below.refl _ _, hI⟩
  refine ⟨fun b vals y w hI hf hd K hK => ?_, ?_⟩
  · skip
    obtain ⟨-, -, -, f8, -, -, -, -, -, -⟩ := hf
    replace f8 : b.tmps[8]? = _ := f8
    obtain ⟨s67, r67, y67⟩ := hd 67 (by decide)
    replace s67 : b.tmps[278]? = some (vals 67) := s67
    replace y67 : y 67 = some true := y67 true r67
    rw [show vals 67 = _ from r67] at s67
    clear hd
    obtain ⟨-, -, z, -⟩ := HLD.out w hI
    obtain ⟨z0, z1, z2, z3, z4, z5⟩ := z.allC
    clear z
    go_simp
    exact hK.out _ _ ⟨rfl, Below.refl _ _, hI⟩
  refine ⟨fun b vals y w hI hf hd K hK => ?_, ?_⟩
  · skip
    clear hf
    obtain ⟨s67, r67, y67⟩ := hd 67 (by decide)
    replace s67 : b.tmps[278]? = some (vals 67) := s67
    replace y67 : y 67 = some true := y67 true r67
    rw [show vals 67 = _ from r67] at s67
    obtain ⟨s68, r68, y68⟩ := hd 68 (by decide)
    replace s68 : b.tmps[279]? = some (vals 68) := s68
    clear y68
    rw [show vals 68 = _ from r68] at s68
    obtain ⟨s69, r69, y69⟩ := hd 69 (by decide)
    replace s69 : b.tmps[280]? = some (vals 69) := s69
    clear y69
    rw [show vals 69 = _ from r69] at s69
    clear hd
    have zc := HCE.out w hI
    go_simp
    refine zc.mono ?_
    rintro e w' ⟨rfl, hb'⟩
    exact hK.out _ _ ⟨rfl, hb', bthen hI hb'⟩
  refine ⟨fun b vals y w hI hf hd K hK => ?_, ?_⟩
  · skip
    clear hf
    obtain ⟨s67, r67, y67⟩ := hd 67 (by decide)
    replace s67 : b.tmps[278]? = some (vals 67) := s67
    replace y67 : y 67 = some true := y67 true r67
    rw [show vals 67 = _ from r67] at s67
    obtain ⟨s70, r70, y70⟩ := hd 70 (by decide)
    replace s70 : b.tmps[281]? = some (vals 70) := s70
    clear y70
    rw [show vals 70 = _ from r70] at s70
    clear hd
    go_simp
    exact hK.out _ _ ⟨rfl, Below.refl _ _, hI⟩
  refine ⟨fun b vals y w hI hf hd K hK => ?_, ?_⟩
  · skip
    clear hf
    obtain ⟨s67, r67, y67⟩ := hd 67 (by decide)
    replace s67 : b.tmps[278]? = some (vals 67) := s67
    clear y67
    rw [show vals 67 = _ from r67] at s67
    obtain ⟨s71, r71, y71⟩ := hd 71 (by decide)
    replace s71 : b.tmps[282]? = some (vals 71) := s71
    clear y71
    rw [show vals 71 = _ from r71] at s71
    clear hd
    go_simp
    exact hK.out _ _ ⟨rfl, Below.refl _ _, hI⟩
  refine ⟨fun b vals y w hI hf hd K hK => ?_, ?_⟩
  · skip
    clear hf
    obtain ⟨s72, r72, y72⟩ := hd 72 (by decide)
    replace s72 : b.tmps[283]? = some (vals 72) := s72
    clear y72
    rw [show vals 72 = _ from r72] at s72
    clear hd
    go_simp
    exact hK.out _ _ ⟨rfl, Below.refl _ _, hI⟩
  exact trivial
end Go.Proofs.Ytncdombfhcfobaa
