/- Plain words on what Rebase keeps between its rounds. -/
import Derived.Test.YtncdombfhcfobaaGreatM25
import Derived.Test.YtncdombfhcfobaaGreatM24
namespace Go.Proofs.YtncdombfhcfobaaGreat
open Go.RowKit
theorem KeptBut.blk {bc g : Nat} {r : Option Nat} {t : TypeId} {cs : List Value} {w w' : World} (h : KeptBut bc r w w') (hb : Blk w g t cs) (h1 : g ≠ bc) (h2 : some g ≠ r) : Blk w' g t cs := hb.same (h.block g hb.lt h1 h2)
theorem KeptBut.im {bc b : Nat} {r : Option Nat} {L : List (Int × Value)} {w w' : World} (h : KeptBut bc r w w') (hb : IM w b L) (h1 : b ≠ bc) (h2 : some b ≠ r) : IM w' b L := hb.same (h.block b hb.lt h1 h2)
theorem KeptBut.own {bc b n k : Nat} {r : Option Nat} {e : TypeId} {v : Value} {xs : List Value} {w w' : World} (h : KeptBut bc r w w') (ho : w.ownsRow b e k v n xs) (h1 : v.ownBlock ≠ some bc) (h2 : ∀ g, v.ownBlock = some g → some g ≠ r) : w'.ownsRow b e k v n xs := by
  refine ⟨ho.1, ?_⟩
  rcases ho.2 with h' | ⟨g, c', cur, q1, q2, q3, q4⟩
  · exact .inl h'
  · have hg : v.ownBlock = some g := by rw [q1]; rfl
    exact .inr ⟨g, c', cur, q1, q2, (h.block g (Array.getElem?_eq_some_iff.1 q3).1 (fun e => h1 (by rw [hg, e])) (h2 g hg)).trans q3, q4⟩
theorem KeptBut.bel {bc B : Nat} {r : Option Nat} {a w w' : World} (h : KeptBut bc r w w') (hB : Below B a w) (h0 : B ≤ bc) (h1 : B ≤ w.heap.size) (h2 : ∀ g, r = some g → B ≤ g) : Below B a w' :=
  hB.trans ⟨h.os, h.tape, h.output, h.size, fun k hk => h.block k (by omega) (by omega) (fun e => by have := h2 k e.symm; omega)⟩
theorem own_neT {W : World} {b b' n n' k k' : Nat} {e e' : TypeId} {v v' : Value} {xs xs' : List Value} (h : W.ownsRow b e k v n xs) (h' : W.ownsRow b' e' k' v' n' xs') (ht : e ≠ e' := by decide) : ∀ g, v.ownBlock = some g → some g ≠ v'.ownBlock := by
  intro g hg he
  rcases h.2 with ⟨rfl, _⟩ | ⟨g1, _, cur1, rfl, _, p1, _⟩
  · cases hg
  rcases h'.2 with ⟨rfl, _⟩ | ⟨g2, _, cur2, rfl, _, p2, _⟩
  · cases he
  simp only [Value.ownBlock, Option.some.injEq] at hg he
  subst hg
  subst he
  rw [p1] at p2
  simp only [Option.some.injEq, Obj.cells.injEq] at p2
  exact ht p2.2.1
theorem Blk.u6 {w : World} {g : Nat} {t : TypeId} {a b c d e f : Value} (h : Blk w g t [a, b, c, d, e, f]) : w.cell? ⟨g, 4, none⟩ = some e ∧ w.cell? ⟨g, 5, none⟩ = some f ∧ w.frozen? ⟨g, 4, none⟩ = false ∧ w.frozen? ⟨g, 5, none⟩ = false ∧ g < w.heap.size :=
  ⟨h.cell 4, h.cell 5, h.free 4, h.free 5, h.lt⟩
theorem Blk.other6 {w : World} {g b : Nat} {t : TypeId} {cs : List Value} (h : Blk w g t cs) (hne : g ≠ b) (u0 u1 u2 u3 u4 u5 : Value) :
    Blk ((((((w.setCell ⟨b, 0, none⟩ u0).setCell ⟨b, 1, none⟩ u1).setCell ⟨b, 2, none⟩ u2).setCell ⟨b, 3, none⟩ u3).setCell ⟨b, 4, none⟩ u4).setCell ⟨b, 5, none⟩ u5) g t cs :=
  (((((h.other (p := ⟨b, 0, none⟩) hne u0).other (p := ⟨b, 1, none⟩) hne u1).other (p := ⟨b, 2, none⟩) hne u2).other (p := ⟨b, 3, none⟩) hne u3).other (p := ⟨b, 4, none⟩) hne u4).other (p := ⟨b, 5, none⟩) hne u5
theorem own_set6 {W : World} {B n k b : Nat} {e : TypeId} {v : Value} {xs : List Value} (h : W.ownsRow B e k v n xs) (hb : b < B) (u0 u1 u2 u3 u4 u5 : Value) :
    World.ownsRow ((((((W.setCell ⟨b, 0, none⟩ u0).setCell ⟨b, 1, none⟩ u1).setCell ⟨b, 2, none⟩ u2).setCell ⟨b, 3, none⟩ u3).setCell ⟨b, 4, none⟩ u4).setCell ⟨b, 5, none⟩ u5) B e k v n xs :=
  own_set (own_set (own_set (own_set (own_set (own_set h ⟨b, 0, none⟩ hb u0) ⟨b, 1, none⟩ hb u1) ⟨b, 2, none⟩ hb u2) ⟨b, 3, none⟩ hb u3) ⟨b, 4, none⟩ hb u4) ⟨b, 5, none⟩ hb u5
theorem rebS {W : World} {g g' : Nat} {t t' : TypeId} {a b c d e f v : Value} (hu : Blk W g t [a, b, c, d, e, f]) (ht : Blk W g' t' [v]) :
    W.cell? ⟨g, 0, none⟩ = some a ∧ W.cell? ⟨g, 1, none⟩ = some b ∧ W.cell? ⟨g, 2, none⟩ = some c ∧ W.cell? ⟨g, 3, none⟩ = some d ∧ W.cell? ⟨g, 4, none⟩ = some e ∧ W.cell? ⟨g, 5, none⟩ = some f ∧ W.cell? ⟨g', 0, none⟩ = some v :=
  ⟨hu.cell 0, hu.cell 1, hu.cell 2, hu.cell 3, hu.cell 4, hu.cell 5, ht.all1.1⟩
/-- between two rounds -/
structure RebI (w4 : World) (c : Cp) (vch vgo vct : Value) (Lch : List It) (Lgo Lct : List Int) (wr : World) : Prop where
  u : Blk wr w4.heap.size 32 [.int .i64 c.code, .int .i64 c.mod, .int .i64 c.x, .int .i64 c.y, vch, vgo]
  t : Blk wr (w4.heap.size + 1) 30 [vct]
  ch : wr.ownsRow w4.heap.size 27 6 vch Lch.length (Lch.flatMap cI)
  go : wr.ownsRow w4.heap.size 3 1 vgo Lgo.length (Lgo.flatMap cN)
  ct : wr.ownsRow w4.heap.size 3 1 vct Lct.length (Lct.flatMap cN)
  ne : ∀ g, vgo.ownBlock = some g → some g ≠ vct.ownBlock
  b : Below w4.heap.size w4 wr
section
variable {w4 wr wn : World} {c : Cp} {vch vgo vct : Value} {Lch : List It} {Lgo Lct : List Int}
theorem RebI.to (h : RebI w4 c vch vgo vct Lch Lgo Lct wr) (hb : Below wr.heap.size wr wn) : RebI w4 c vch vgo vct Lch Lgo Lct wn :=
  ⟨h.u.below hb h.u.lt, h.t.below hb h.t.lt, own_bel h.ch hb, own_bel h.go hb, own_bel h.ct hb, h.ne, bthen h.b hb⟩
/-- behind the closure's call -/
theorem RebI.cont (h : RebI w4 c vch vgo vct Lch Lgo Lct wr) {v' : Value} {L' : List Int} (gT : Blk wn (w4.heap.size + 1) 30 [v']) (ho : wn.ownsRow w4.heap.size 3 1 v' L'.length (L'.flatMap cN)) (hk : KeptBut (w4.heap.size + 1) vct.ownBlock wr wn)
    (hor : v'.ownBlock = vct.ownBlock ∨ ∃ g, v'.ownBlock = some g ∧ wr.heap.size ≤ g) : RebI w4 c vch vgo v' Lch Lgo L' wn := by
  refine ⟨hk.blk h.u (by omega) (fun e => (own_neX (ht := by decide) h.ct h.u) e.symm), gT, hk.own h.ch (own_neX h.ch h.t) (own_neT h.ch h.ct), hk.own h.go (own_neX h.go h.t) h.ne, ho, fun g hg he => ?_, hk.bel h.b (by omega) h.b.size (fun g e => (own_lt h.ct g e).1)⟩
  rcases hor with e | ⟨g', e, hl⟩
  · rw [e] at he; exact h.ne g hg he
  · rw [e] at he
    simp only [Option.some.injEq] at he
    have := (own_lt h.go g hg).2
    omega
/-- behind the sort of what is contested -/
theorem RebI.sorted (h : RebI w4 c vch vgo vct Lch Lgo Lct wr) {L' : List Int} (ho : wn.ownsRow w4.heap.size 3 1 vct L'.length (L'.flatMap cN)) (hg : wr.grownBy wn vct.ownBlock) : RebI w4 c vch vgo vct Lch Lgo L' wn := by
  have hgo : wn.ownsRow w4.heap.size 3 1 vgo Lgo.length (Lgo.flatMap cN) := by
    refine ⟨h.go.1, ?_⟩
    rcases h.go.2 with h' | ⟨g, c', cur, q1, q2, q3, q4⟩
    · exact .inl h'
    · exact .inr ⟨g, c', cur, q1, q2, (hg.block g (Array.getElem?_eq_some_iff.1 q3).1 (h.ne g (by rw [q1]; rfl))).trans q3, q4⟩
  exact ⟨h.u.grown hg (own_neX h.ct h.u), h.t.grown hg (own_neX h.ct h.t), own_two h.ch h.ct (by decide) hg, hgo, ho, h.ne, h.b.grown hg h.b.size (fun g e => (own_lt h.ct g e).1)⟩
/-- an item more that stays changed: the slice of the copy's fourth field -/
theorem RebI.addCh (h : RebI w4 c vch vgo vct Lch Lgo Lct wr) {v' : Value} {s : It} (ho : wn.ownsRow w4.heap.size 27 6 v' (Lch.length + 1) (Lch.flatMap cI ++ cI s)) (hg : wr.grownBy wn vch.ownBlock) :
    RebI w4 c v' vgo vct (Lch ++ [s]) Lgo Lct (wn.setCell ⟨w4.heap.size, 4, none⟩ v') := by
  have gU := h.u.grown hg (own_neX h.ch h.u)
  have gT := h.t.grown hg (own_neX h.ch h.t)
  have hgo := own_two h.go h.ch (by decide) hg
  have hct := own_two h.ct h.ch (by decide) hg
  refine ⟨gU.set 4 v', gT.other (p := ⟨w4.heap.size, 4, none⟩) (by simp) v', ?_, own_setO hgo (own_neX hgo gU) v', own_setO hct (own_neX hct gU) v', h.ne, bset (h.b.grown hg h.b.size (fun g e => (own_lt h.ch g e).1)) (p := ⟨w4.heap.size, 4, none⟩) (Nat.le_refl _) v'⟩
  rw [List.length_append, flatI_snoc]
  exact own_setO ho (own_neX ho gU) v'
theorem RebI.addGo (h : RebI w4 c vch vgo vct Lch Lgo Lct wr) {v' : Value} {n : Int} (ho : wn.ownsRow w4.heap.size 3 1 v' (Lgo.length + 1) (Lgo.flatMap cN ++ cN n)) (hg : wr.grownBy wn vgo.ownBlock) (hor : v'.ownBlock = vgo.ownBlock ∨ v'.ownBlock = some wr.heap.size) :
    RebI w4 c vch v' vct Lch (Lgo ++ [n]) Lct (wn.setCell ⟨w4.heap.size, 5, none⟩ v') := by
  have gU := h.u.grown hg (own_neX h.go h.u)
  have gT := h.t.grown hg (own_neX h.go h.t)
  have hch := own_two h.ch h.go (by decide) hg
  have hct : wn.ownsRow w4.heap.size 3 1 vct Lct.length (Lct.flatMap cN) := by
    refine ⟨h.ct.1, ?_⟩
    rcases h.ct.2 with h' | ⟨g, c', cur, q1, q2, q3, q4⟩
    · exact .inl h'
    · refine .inr ⟨g, c', cur, q1, q2, (hg.block g (Array.getElem?_eq_some_iff.1 q3).1 (fun e => ?_)).trans q3, q4⟩
      exact h.ne g e.symm (by rw [q1]; rfl)
  refine ⟨gU.set 5 v', gT.other (p := ⟨w4.heap.size, 5, none⟩) (by simp) v', own_setO hch (own_neX hch gU) v', ?_, own_setO hct (own_neX hct gU) v', fun g hgv he => ?_, bset (h.b.grown hg h.b.size (fun g e => (own_lt h.go g e).1)) (p := ⟨w4.heap.size, 5, none⟩) (Nat.le_refl _) v'⟩
  · rw [List.length_append, flatN_snoc]
    exact own_setO ho (own_neX ho gU) v'
  · rcases hor with e | e
    · rw [e] at hgv; exact h.ne g hgv he
    · rw [e] at hgv
      simp only [Option.some.injEq] at hgv
      have := (own_lt h.ct g he.symm).2
      omega
end
theorem ascB_len {lo hi : Int} : ∀ (l : List Int) (p : Int), ascB lo hi p l = true → l ≠ [] → p + l.length ≤ hi
  | [], _, _, h => absurd rfl h
  | n :: l, p, h, _ => by
    simp only [ascB, Bool.and_eq_true, inB_iff, decide_eq_true_eq] at h
    obtain ⟨⟨⟨_, h2⟩, h3⟩, h4⟩ := h
    cases l with
    | nil => simp; omega
    | cons m l =>
      have := ascB_len (m :: l) n h4 (by simp)
      simp only [List.length_cons] at this ⊢
      omega
theorem cpOk_len {c : Cp} (h : cpOk c = true) : c.changes.length ≤ 12 ∧ c.gone.length ≤ 100 := by
  unfold cpOk at h
  simp only [Bool.and_eq_true] at h
  obtain ⟨⟨⟨⟨_, _⟩, h1⟩, h2⟩, _⟩ := h
  refine ⟨itsOk_len h1, ?_⟩
  by_cases hn : c.gone = []
  · rw [hn]; simp
  · have := ascB_len c.gone (-1) h2 hn
    omega
theorem filtN_snoc (p : Int → Bool) (l : List Int) (k : Nat) (hk : k < l.length) : (l.take (k + 1)).filter p = if p l[k] then (l.take k).filter p ++ [l[k]] else (l.take k).filter p := by
  rw [List.take_succ_eq_append_getElem hk, List.filter_append]
  by_cases h : p l[k] = true
  · simp [h]
  · have h' : p l[k] = false := by simpa using h
    simp [h']
theorem cntL_snoc (old now : List It) (L : List Int) (n : Int) : cntL old now (L.filter (cntB old now)) n = (L ++ [n]).filter (cntB old now) := by
  unfold cntL
  rw [List.filter_append]
  by_cases h : cntB old now n = true
  · simp [h]
  · have h' : cntB old now n = false := by simpa using h
    simp [h']
end Go.Proofs.YtncdombfhcfobaaGreat
