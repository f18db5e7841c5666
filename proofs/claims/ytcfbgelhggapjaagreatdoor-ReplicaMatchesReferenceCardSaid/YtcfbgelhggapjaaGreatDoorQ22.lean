/- One form for both answers of a pair: what the two implementations' calls give. -/
import Derived.Test.YtcfbgelhggapjaaGreatDoorQ21
import Derived.Test.YtcfbgelhggapjaaGreatDoorQ20
import Derived.Test.YtcfbgelhggapjaaGreatDoorQ17
namespace Go.Proofs.YtcfbgelhggapjaaGreatDoor
open Go.RowKit Go.Shelf
def oP (q : Int) (o : Option (List Rc)) : Int := if o.isSome then q else 0
def oL (o : Option (List Rc)) : List Rc := o.getD []
def oE (o : Option (List Rc)) : Int := if o.isSome then 0 else 350
theorem RepPost.uni {q : Int} {o : Option (List Rc)} {n : Nat} {w w' : World} {e : Ending} (hn : (oL o).length = n) (h : RepPost q o w e w') :
    Below w.heap.size w w' ∧ ∃ A c, e = .returned (.tuple #[.agg #[.int .i64 (oP q o), .slice A n c], .int .i64 (oE o)]) ∧ n ≤ c ∧ c ≤ 9223372036854775807 ∧ SlN w' w.heap.size 7 A n ((oL o).flatMap cR) := by
  cases o with
  | none =>
    obtain ⟨h1, h2⟩ := h.none'
    subst hn
    exact ⟨h1, none, 0, h2, Nat.le_refl _, by omega, SlN.nil⟩
  | some m =>
    obtain ⟨h1, A, c, h2, h3, h4, h5⟩ := RepPost.some' hn h
    exact ⟨h1, A, c, h2, h3, h4, h5⟩
theorem BehPost.uni {o : Option (List Rc)} {n : Nat} {w w' : World} {e : Ending} (hn : (oL o).length = n) (h : BehPost o w e w') :
    Below w.heap.size w w' ∧ ∃ A c, e = .returned (.tuple #[.slice A n c, .int .i64 (oE o)]) ∧ n ≤ c ∧ c ≤ 9223372036854775807 ∧ SlN w' w.heap.size 7 A n ((oL o).flatMap cR) := by
  cases o with
  | none =>
    obtain ⟨h1, h2⟩ := h.none'
    subst hn
    exact ⟨h1, none, 0, h2, Nat.le_refl _, by omega, SlN.nil⟩
  | some m =>
    obtain ⟨h1, A, c, h2, h3, h4, h5⟩ := BehPost.some' hn h
    exact ⟨h1, A, c, h2, h3, h4, h5⟩
end Go.Proofs.YtcfbgelhggapjaaGreatDoor
/- Four replicas in a row: what the walk against the reference needs. -/
namespace Go.Proofs.YtcfbgelhggapjaaGreatDoor
open Go.RowKit Go.Shelf
structure EnL (W : World) (e : En) (l : List Rc) : Prop where
  len : l.length = e.n
  hnc : e.n ≤ e.c
  hc : e.c ≤ 9223372036854775807
  slr : SlR W W.heap.size 7 e.A e.n (l.flatMap cR)
theorem EnL.to {W W' : World} {e : En} {l : List Rc} (h : EnL W e l) (hb : Below W.heap.size W W') : EnL W' e l := ⟨h.len, h.hnc, h.hc, h.slr.to' hb⟩
structure Fo (W : World) (A : Option Addr) (c : Nat) (es : List En) (L : List (List Rc)) : Prop where
  hc : 4 ≤ c
  hc' : c ≤ 9223372036854775807
  len : es.length = 4
  row : SlR W W.heap.size 2 A 4 (es.flatMap cE)
  ok : ∀ j, j < 4 → EnL W es[j]! L[j]!
theorem Fo.to {W W' : World} {A : Option Addr} {c : Nat} {es : List En} {L : List (List Rc)} (h : Fo W A c es L) (hb : Below W.heap.size W W') : Fo W' A c es L :=
  ⟨h.hc, h.hc', h.len, h.row.to' hb, fun j hj => (h.ok j hj).to hb⟩
theorem Fo.cells {W : World} {g o : Nat} {c : Nat} {es : List En} {L : List (List Rc)} (h : Fo W (some ⟨g, o, none⟩) c es L) {j : Nat} (hj : j < 4) :
    W.cell? ⟨g, o + j * 2, none⟩ = some (.int .i64 (es[j]!).p) ∧ W.cell? ⟨g, o + j * 2 + 1, none⟩ = some (.slice (es[j]!).A (es[j]!).n (es[j]!).c) := by
  obtain ⟨b, off, e, _, hc⟩ := h.row.2 (by omega)
  simp only [Option.some.injEq, Addr.mk.injEq] at e
  obtain ⟨rfl, rfl, -⟩ := e
  have hl : j < es.length := by rw [h.len]; exact hj
  have h0 := flat_get cE 2 (fun _ => rfl) es j hl
  have e1 : es[j]! = es[j] := by simp [hl]
  rw [e1]
  refine ⟨?_, ?_⟩
  · have := hc (j * 2) _ (h0 0 (by omega))
    simpa [cE] using this
  · have := hc (j * 2 + 1) _ (by simpa [cE] using h0 1 (by omega))
    rw [← Nat.add_assoc] at this
    simpa [cE] using this
theorem Fo.some {W : World} {A : Option Addr} {c : Nat} {es : List En} {L : List (List Rc)} (h : Fo W A c es L) : ∃ g o, A = some ⟨g, o, none⟩ ∧ g < W.heap.size := by
  obtain ⟨b, off, e, hb, _⟩ := h.row.2 (by omega)
  exact ⟨b, off, e, hb⟩
theorem Fo.mk4 {W W' : World} {A A' : Option Addr} {c c' : Nat} {es : List En} {L : List (List Rc)} (h : Now W A c es L) (hL : L.length = 3) (hb : Below W.heap.size W W') {e : En} {l : List Rc} (he : EnL W' e l) (hc : 4 ≤ c') (hc' : c' ≤ 9223372036854775807)
    (hr : SlR W' W'.heap.size 2 A' 4 (es.flatMap cE ++ [.int .i64 e.p, .slice e.A e.n e.c])) : Fo W' A' c' (es ++ [e]) (L ++ [l]) := by
  have hr' : SlR W' W'.heap.size 2 A' 4 ((es ++ [e]).flatMap cE) := by rw [List.flatMap_append]; simpa [cE] using hr
  refine ⟨hc, hc', by rw [List.length_append, h.len]; rfl, hr', fun j hj => ?_⟩
  by_cases h3 : j < 3
  · have e1 : (es ++ [e])[j]! = es[j]! := by simp [List.getElem?_append_left (show j < es.length by rw [h.len]; exact h3)]
    have e2 : (L ++ [l])[j]! = L[j]! := by simp [List.getElem?_append_left (show j < L.length by rw [hL]; exact h3)]
    rw [e1, e2]
    have := (h.ok j h3).to hb
    exact ⟨this.len, this.hnc, this.hc, this.slr⟩
  · obtain rfl : j = 3 := by omega
    have e1 : (es ++ [e])[3]! = e := by simp [h.len]
    have e2 : (L ++ [l])[3]! = l := by simp [hL]
    rw [e1, e2]
    exact he
/-- what outlives stores into two boxes -/
structure St (w0 : World) (b1 b2 b3 : Nat) (t : TypeId) (cs : List Value) (W : World) : Prop where
  bel : Below w0.heap.size w0 W
  x1 : ∃ x y, Blk W b1 25 [x, y]
  x2 : ∃ x y, Blk W b2 25 [x, y]
  x3 : Blk W b3 t cs
theorem St.to {w0 : World} {b1 b2 b3 : Nat} {t : TypeId} {cs : List Value} {W W' : World} (h : St w0 b1 b2 b3 t cs W) (hb : Below W.heap.size W W') : St w0 b1 b2 b3 t cs W' := by
  obtain ⟨x, y, h1⟩ := h.x1
  obtain ⟨x', y', h2⟩ := h.x2
  exact ⟨bthen h.bel hb, ⟨x, y, h1.below hb h1.lt⟩, ⟨x', y', h2.below hb h2.lt⟩, h.x3.below hb h.x3.lt⟩
theorem St.s1 {w0 : World} {b1 b2 b3 : Nat} {t : TypeId} {cs : List Value} {W : World} (h : St w0 b1 b2 b3 t cs W) (h0 : w0.heap.size ≤ b1) (h12 : b2 ≠ b1) (h13 : b3 ≠ b1) (u v : Value) :
    St w0 b1 b2 b3 t cs ((W.setCell ⟨b1, 0, none⟩ u).setCell ⟨b1, 1, none⟩ v) := by
  obtain ⟨x, y, h1⟩ := h.x1
  obtain ⟨x', y', h2⟩ := h.x2
  exact ⟨bset (p := ⟨b1, 1, none⟩) (bset (p := ⟨b1, 0, none⟩) h.bel h0 _) h0 _, ⟨u, v, (h1.set 0 u).set 1 v⟩, ⟨x', y', (h2.other (p := ⟨b1, 0, none⟩) h12 u).other (p := ⟨b1, 1, none⟩) h12 v⟩, (h.x3.other (p := ⟨b1, 0, none⟩) h13 u).other (p := ⟨b1, 1, none⟩) h13 v⟩
theorem St.s2 {w0 : World} {b1 b2 b3 : Nat} {t : TypeId} {cs : List Value} {W : World} (h : St w0 b1 b2 b3 t cs W) (h0 : w0.heap.size ≤ b2) (h12 : b1 ≠ b2) (h13 : b3 ≠ b2) (u v : Value) :
    St w0 b1 b2 b3 t cs ((W.setCell ⟨b2, 0, none⟩ u).setCell ⟨b2, 1, none⟩ v) := by
  obtain ⟨x, y, h1⟩ := h.x1
  obtain ⟨x', y', h2⟩ := h.x2
  exact ⟨bset (p := ⟨b2, 1, none⟩) (bset (p := ⟨b2, 0, none⟩) h.bel h0 _) h0 _, ⟨x, y, (h1.other (p := ⟨b2, 0, none⟩) h12 u).other (p := ⟨b2, 1, none⟩) h12 v⟩, ⟨u, v, (h2.set 0 u).set 1 v⟩, (h.x3.other (p := ⟨b2, 0, none⟩) h13 u).other (p := ⟨b2, 1, none⟩) h13 v⟩
end Go.Proofs.YtcfbgelhggapjaaGreatDoor
/- Stores into the two boxes: what outlives them. -/
namespace Go.Proofs.YtcfbgelhggapjaaGreatDoor
open Go.RowKit Go.Shelf
/-- a replica in a box, and another box that is stored to -/
theorem Bx.other {W : World} {b b2 : Nat} {p : Int} {A : Option Addr} {n c : Nat} {l : List Rc} {t : TypeId} {x y : Value} (h : Bx W b p A n c l) (hb : Blk W b2 t [x, y]) (hne : b ≠ b2) (u v : Value) :
    Bx ((W.setCell ⟨b2, 0, none⟩ u).setCell ⟨b2, 1, none⟩ v) b p A n c l :=
  ⟨(h.blk.other (p := ⟨b2, 0, none⟩) hne u).other (p := ⟨b2, 1, none⟩) hne v, ((h.slr.box (by omega) hb 0 u).box (by omega) (hb.set 0 u) 1 v).more (by simp), h.hnc, h.hc⟩
/-- a replica stored into a box -/
theorem SlN.put {W : World} {b lo : Nat} {p : Int} {A : Option Addr} {n c : Nat} {l : List Rc} {x y : Value} (h : SlN W lo 7 A n (l.flatMap cR)) (hb : Blk W b 25 [x, y]) (h1 : n ≤ c) (h2 : c ≤ 9223372036854775807) :
    Bx ((W.setCell ⟨b, 0, none⟩ (.int .i64 p)).setCell ⟨b, 1, none⟩ (.slice A n c)) b p A n c l :=
  ⟨(hb.set 0 (.int .i64 p)).set 1 (.slice A n c), (((h.1.to' (Below.refl _ _)).box (by omega) hb 0 (.int .i64 p)).box (by omega) (hb.set 0 (.int .i64 p)) 1 (.slice A n c)).more (by simp), h1, h2⟩
structure S2 (w0 : World) (b1 b2 b3 : Nat) (t : TypeId) (cs : List Value) (b4 : Nat) (t4 : TypeId) (ds : List Value) (W : World) : Prop where
  st : St w0 b1 b2 b3 t cs W
  x4 : Blk W b4 t4 ds
theorem S2.to {w0 : World} {b1 b2 b3 : Nat} {t : TypeId} {cs : List Value} {b4 : Nat} {t4 : TypeId} {ds : List Value} {W W' : World} (h : S2 w0 b1 b2 b3 t cs b4 t4 ds W) (hb : Below W.heap.size W W') : S2 w0 b1 b2 b3 t cs b4 t4 ds W' :=
  ⟨h.st.to hb, h.x4.below hb h.x4.lt⟩
theorem S2.drew {w0 : World} {b1 b2 b3 : Nat} {t : TypeId} {cs : List Value} {b4 : Nat} {t4 : TypeId} {ds : List Value} {W : World} (h : S2 w0 b1 b2 b3 t cs b4 t4 ds W) : S2 w0 b1 b2 b3 t cs b4 t4 ds W.drew :=
  h.to (bdrew (Below.refl _ _))
theorem S2.s1 {w0 : World} {b1 b2 b3 : Nat} {t : TypeId} {cs : List Value} {b4 : Nat} {t4 : TypeId} {ds : List Value} {W : World} (h : S2 w0 b1 b2 b3 t cs b4 t4 ds W) (h0 : w0.heap.size ≤ b1) (h12 : b1 < b2) (h13 : b2 < b3) (h14 : b2 < b4) (u v : Value) :
    S2 w0 b1 b2 b3 t cs b4 t4 ds ((W.setCell ⟨b1, 0, none⟩ u).setCell ⟨b1, 1, none⟩ v) :=
  ⟨h.st.s1 h0 (by omega) (by omega) u v, (h.x4.other (p := ⟨b1, 0, none⟩) (by show b4 ≠ b1; omega) u).other (p := ⟨b1, 1, none⟩) (by show b4 ≠ b1; omega) v⟩
theorem S2.s2 {w0 : World} {b1 b2 b3 : Nat} {t : TypeId} {cs : List Value} {b4 : Nat} {t4 : TypeId} {ds : List Value} {W : World} (h : S2 w0 b1 b2 b3 t cs b4 t4 ds W) (h0 : w0.heap.size ≤ b1) (h12 : b1 < b2) (h13 : b2 < b3) (h14 : b2 < b4) (u v : Value) :
    S2 w0 b1 b2 b3 t cs b4 t4 ds ((W.setCell ⟨b2, 0, none⟩ u).setCell ⟨b2, 1, none⟩ v) :=
  ⟨h.st.s2 (by omega) (by omega) (by omega) u v, (h.x4.other (p := ⟨b2, 0, none⟩) (by show b4 ≠ b2; omega) u).other (p := ⟨b2, 1, none⟩) (by show b4 ≠ b2; omega) v⟩
/-- what a store into one of two boxes leaves -/
structure KW (w0 : World) (b1 b2 : Nat) (K : World → Prop) : Prop where
  next : ∀ {W W' : World}, K W → Below W.heap.size W W' → K W'
  bel : ∀ {W : World}, K W → Below w0.heap.size w0 W
  x1 : ∀ {W : World}, K W → ∃ x y, Blk W b1 25 [x, y]
  x2 : ∀ {W : World}, K W → ∃ x y, Blk W b2 25 [x, y]
  s1 : ∀ {W : World}, K W → ∀ u v : Value, K ((W.setCell ⟨b1, 0, none⟩ u).setCell ⟨b1, 1, none⟩ v)
  s2 : ∀ {W : World}, K W → ∀ u v : Value, K ((W.setCell ⟨b2, 0, none⟩ u).setCell ⟨b2, 1, none⟩ v)
theorem KW.drew {w0 : World} {b1 b2 : Nat} {K : World → Prop} (h : KW w0 b1 b2 K) {W : World} (hk : K W) : K W.drew := h.next hk (bdrew (Below.refl _ _))
theorem S2.kw {w0 : World} {b1 b2 b3 : Nat} (t : TypeId) (cs : List Value) {b4 : Nat} (t4 : TypeId) (ds : List Value) (h0 : w0.heap.size ≤ b1) (h12 : b1 < b2) (h13 : b2 < b3) (h14 : b2 < b4) :
    KW w0 b1 b2 (S2 w0 b1 b2 b3 t cs b4 t4 ds) :=
  ⟨fun h hb => h.to hb, fun h => h.st.bel, fun h => h.st.x1, fun h => h.st.x2, fun h u v => h.s1 h0 h12 h13 h14 u v, fun h u v => h.s2 h0 h12 h13 h14 u v⟩
theorem St.kw {w0 : World} {b1 b2 b3 : Nat} (t : TypeId) (cs : List Value) (h0 : w0.heap.size ≤ b1) (h12 : b1 < b2) (h13 : b2 < b3) :
    KW w0 b1 b2 (St w0 b1 b2 b3 t cs) :=
  ⟨fun h hb => h.to hb, fun h => h.bel, fun h => h.x1, fun h => h.x2, fun h u v => h.s1 h0 (by omega) (by omega) u v, fun h u v => h.s2 (by omega) (by omega) (by omega) u v⟩
/-- the first box is filled; the second is stored to -/
structure KW2 (w0 : World) (b1 b2 : Nat) (p : Int) (A : Option Addr) (n c : Nat) (l : List Rc) (K K3 : World → Prop) : Prop where
  next : ∀ {W W' : World}, K3 W → Below W.heap.size W W' → K3 W'
  k : ∀ {W : World}, K3 W → K W
  bx : ∀ {W : World}, K3 W → Bx W b1 p A n c l
  bel : ∀ {W : World}, K3 W → Below w0.heap.size w0 W
  x2 : ∀ {W : World}, K3 W → ∃ x y, Blk W b2 25 [x, y]
  s2 : ∀ {W : World}, K3 W → ∀ u v : Value, K3 ((W.setCell ⟨b2, 0, none⟩ u).setCell ⟨b2, 1, none⟩ v)
theorem KW2.drew {w0 : World} {b1 b2 : Nat} {p : Int} {A : Option Addr} {n c : Nat} {l : List Rc} {K K3 : World → Prop} (h : KW2 w0 b1 b2 p A n c l K K3) {W : World} (hk : K3 W) : K3 W.drew := h.next hk (bdrew (Below.refl _ _))
theorem KW.two {w0 : World} {b1 b2 : Nat} {K : World → Prop} (h : KW w0 b1 b2 K) (h12 : b1 < b2) (p : Int) (A : Option Addr) (n c : Nat) (l : List Rc) : KW2 w0 b1 b2 p A n c l K (fun W => K W ∧ Bx W b1 p A n c l) :=
  ⟨fun hk hb => ⟨h.next hk.1 hb, hk.2.to hb⟩, fun hk => hk.1, fun hk => hk.2, fun hk => h.bel hk.1, fun hk => h.x2 hk.1, fun hk u v => by
    obtain ⟨x, y, gB⟩ := h.x2 hk.1
    exact ⟨h.s2 hk.1 u v, hk.2.other gB (by omega) u v⟩⟩
theorem RepPost.un {q p x : Int} {o : Option (List Rc)} {n : Nat} {w w' : World} {e : Ending} (hh : (oL o).length = n ∧ oE o = x ∧ oP q o = p) (h : RepPost q o w e w') :
    Below w.heap.size w w' ∧ ∃ A c, e = .returned (.tuple #[.agg #[.int .i64 p, .slice A n c], .int .i64 x]) ∧ n ≤ c ∧ c ≤ 9223372036854775807 ∧ SlN w' w.heap.size 7 A n ((oL o).flatMap cR) := by
  obtain ⟨hn, rfl, rfl⟩ := hh
  exact RepPost.uni hn h
theorem BehPost.un {x : Int} {o : Option (List Rc)} {n : Nat} {w w' : World} {e : Ending} (hh : (oL o).length = n ∧ oE o = x) (h : BehPost o w e w') :
    Below w.heap.size w w' ∧ ∃ A c, e = .returned (.tuple #[.slice A n c, .int .i64 x]) ∧ n ≤ c ∧ c ≤ 9223372036854775807 ∧ SlN w' w.heap.size 7 A n ((oL o).flatMap cR) := by
  obtain ⟨hn, rfl⟩ := hh
  exact BehPost.uni hn h
end Go.Proofs.YtcfbgelhggapjaaGreatDoor
/- Opening a replica, an array of four integers; five parameters. -/
namespace Go.Proofs.YtcfbgelhggapjaaGreatDoor
open Go.ChangeShapes Go.WideShapes Go.ChangeAt Go.RowKit Go.Deep
theorem Tryz.cells49 : Tryz.prog.cellsOf 49 = 7 := by kernel_rfl
theorem Tryz.cells23 : Tryz.prog.cellsOf 23 = 1 := by kernel_rfl
theorem Tryz.cells25 : Tryz.prog.cellsOf 25 = 2 := by kernel_rfl
theorem Tryz.cells9 : Tryz.prog.cellsOf 9 = 1 := by kernel_rfl
section
variable {H : Type} {enc : TypeId × Value → H} {W : World} {base : Nat}
/-- a slice whose elements lie in k cells each -/
theorem open_rowK {α : Type} {t e : TypeId} {k : Nat} (hk : 0 < k) (en : α → List Value) (hen : ∀ a, (en a).length = k) (Pr : α → Prop) (ht : Tryz.prog.underlying t = some (.slice e)) (hce : Tryz.prog.cellsOf e = k)
    (hel : ∀ (fuel : Nat) (cs : List Value) (x : DataW H × List MemPlace), DataW.trod enc Tryz.prog W 0 (fun _ => true) true fuel e cs = some x → ∃ s, cs = en s ∧ Pr s)
    {fuel : Nat} {cs : List Value} {x : DataW H × List MemPlace} (hf : DataW.trod enc Tryz.prog W 0 (fun _ => true) true fuel t cs = some x) :
    ∃ (A : Option Addr) (l : List α) (c : Nat), cs = [.slice A l.length c] ∧ l.length ≤ c ∧ c ≤ 9223372036854775807 ∧ (∀ s ∈ l, Pr s) ∧ SlR W W.heap.size k A l.length (l.flatMap en) := by
  rcases open_slice ht hf with ⟨h0, _⟩ | ⟨a', len, cap, m, n, D, Pl, hcs, _, hl, hm, hmm, hx, hi⟩
  · exact ⟨none, [], 0, h0, by simp, by omega, by simp, SlR.nil⟩
  · subst hcs
    simp only [if_true] at hmm
    subst hmm
    rw [hce] at hi
    have key : ∀ i, i < len → ∃ s : α, Pr s ∧ ∀ j, j < k → W.cell? ((a'.add (i * k)).add j) = (en s)[j]? := by
      intro i hil
      obtain ⟨cs', hc, ht'⟩ := hi i (by omega)
      obtain ⟨_, hcl, hat⟩ := World.cells?_some hc
      obtain ⟨s, rfl, hp⟩ := hel _ _ _ ht'
      exact ⟨s, hp, fun j hj => hat j (by omega)⟩
    obtain ⟨l, hxl, hxk⟩ := pick_list len key
    subst hxl
    refine ⟨some a', l, _, rfl, hl, by simpa [maxLen] using hm, fun s hs => ?_, ?_⟩
    · obtain ⟨i, hi', rfl⟩ := List.getElem_of_mem hs
      exact (hxk i hi').1
    · rcases Nat.eq_zero_or_pos l.length with h0 | h0
      · have : l = [] := List.eq_nil_of_length_eq_zero h0
        subst this
        exact SlR.nil
      · obtain ⟨b, off, spot⟩ := a'
        have c0 := (hxk 0 h0).2 0 hk
        have hlt : 0 < (en l[0]).length := by rw [hen]; exact hk
        rw [List.getElem?_eq_getElem hlt] at c0
        have hbl := World.block_lt_of_cell? W _ c0
        simp only [Nat.zero_mul, Addr.add, if_true] at c0 hbl
        have hsp : spot = none := by
          unfold World.cell? at c0
          cases spot with
          | none => rfl
          | some s => split at c0 <;> simp at c0
        subst hsp
        refine slr_of en hk hen l (by simpa using hbl) fun i hi' j hj => ?_
        have k0 := (hxk i hi').2 j hj
        have ea : ((⟨b, off, none⟩ : Addr).add (i * k)).add j = ⟨b, off + (i * k + j), none⟩ := by
          have e1 : (⟨b, off, none⟩ : Addr).add (i * k) = ⟨b, off + i * k, none⟩ := by unfold Addr.add; split <;> simp_all
          rw [e1]
          unfold Addr.add
          split <;> simp_all [Nat.add_assoc]
        rw [ea] at k0
        exact k0
set_option maxRecDepth 100000 in
theorem trod_rc {fuel : Nat} {cs : List Value} {x : DataW H × List MemPlace} (h : DataW.trod enc Tryz.prog W 0 (fun _ => true) true fuel 49 cs = some x) : ∃ s : Rc, cs = cR s ∧ True := by
  obtain ⟨xs, m, _, _, hl, hxl, hel⟩ := DataW.trod_struct Tryz.underlying49 h
  rw [Tryz.cells49] at hl
  match cs, hl with
  | [u0, u1, u2, u3, u4, u5, u6], _ =>
    have e0 := hel 0 _ rfl
    have e1 := hel 1 _ rfl
    have e2 := hel 2 _ rfl
    have e3 := hel 3 _ rfl
    have e4 := hel 4 _ rfl
    have e5 := hel 5 _ rfl
    have e6 := hel 6 _ rfl
    simp only [List.getElem_toArray, List.getElem_cons_succ, List.getElem_cons_zero] at e0 e1 e2 e3 e4 e5 e6
    rw [Tryz.cells3] at e0 e1 e2 e3 e4 e5
    rw [Tryz.cells9] at e6
    simp only [List.drop_zero, List.drop_succ_cons, List.take_succ_cons, List.take_zero] at e0 e1 e2 e3 e4 e5 e6
    simp only [List.size_toArray, List.length_cons, List.length_nil] at hxl
    rw [List.getElem?_eq_getElem (by omega)] at e0 e1 e2 e3 e4 e5 e6
    obtain ⟨n0, h0, _, _⟩ := DataW.trod_int Tryz.underlying3 e0
    obtain ⟨n1, h1, _, _⟩ := DataW.trod_int Tryz.underlying3 e1
    obtain ⟨n2, h2, _, _⟩ := DataW.trod_int Tryz.underlying3 e2
    obtain ⟨n3, h3, _, _⟩ := DataW.trod_int Tryz.underlying3 e3
    obtain ⟨n4, h4, _, _⟩ := DataW.trod_int Tryz.underlying3 e4
    obtain ⟨n5, h5, _, _⟩ := DataW.trod_int Tryz.underlying3 e5
    obtain ⟨s6, h6, _, _⟩ := DataW.trod_string Tryz.underlying9 e6
    simp only [List.cons.injEq, and_true] at h0 h1 h2 h3 h4 h5 h6
    subst h0; subst h1; subst h2; subst h3; subst h4; subst h5; subst h6
    exact ⟨⟨n0, n1, n2, n3, n4, n5, s6⟩, rfl, trivial⟩
theorem open_rowR {fuel : Nat} {cs : List Value} {x : DataW H × List MemPlace} (h : DataW.trod enc Tryz.prog W 0 (fun _ => true) true fuel 23 cs = some x) :
    ∃ (A : Option Addr) (l : List Rc) (c : Nat), cs = [.slice A l.length c] ∧ l.length ≤ c ∧ c ≤ 9223372036854775807 ∧ SlR W W.heap.size 7 A l.length (l.flatMap cR) := by
  obtain ⟨A, l, c, h1, h2, h3, -, h4⟩ := open_rowK (k := 7) (by omega) cR (fun _ => rfl) (fun _ => True) Tryz.underlying23 Tryz.cells49 (fun fuel cs x hh => trod_rc hh) h
  exact ⟨A, l, c, h1, h2, h3, h4⟩
set_option maxRecDepth 100000 in
theorem open_rep {v : Value} {d : DataW H} {ps : List MemPlace} (hval : Value.okWide Tryz.prog W .any base 25 v) (h : DataW.Trod enc Tryz.prog W 0 (fun _ => true) true 25 v d ps) :
    ∃ (p : Int) (A : Option Addr) (l : List Rc) (c : Nat), v = rpV p A l.length c ∧ l.length ≤ c ∧ c ≤ 9223372036854775807 ∧ SlR W W.heap.size 7 A l.length (l.flatMap cR) := by
  unfold Value.okWide at hval
  rw [Tryz.underlying25] at hval
  obtain ⟨cs, rfl, hsz, _⟩ := hval
  obtain ⟨fuel, hf⟩ := h
  obtain ⟨l⟩ := cs
  have hf : DataW.trod enc Tryz.prog W 0 (fun _ => true) true fuel 25 l = some (d, ps) := hf
  obtain ⟨xs, m, _, _, hl, hxl, hel⟩ := DataW.trod_struct Tryz.underlying25 hf
  rw [Tryz.cells25] at hl
  match l, hl with
  | [u0, u1], _ =>
    have e0 := hel 0 _ rfl
    have e1 := hel 1 _ rfl
    simp only [List.getElem_toArray, List.getElem_cons_succ, List.getElem_cons_zero] at e0 e1
    rw [Tryz.cells3] at e0
    rw [Tryz.cells23] at e1
    simp only [List.drop_zero, List.drop_succ_cons, List.take_succ_cons, List.take_zero] at e0 e1
    simp only [List.size_toArray, List.length_cons, List.length_nil] at hxl
    rw [List.getElem?_eq_getElem (by omega)] at e0 e1
    obtain ⟨n0, h0, _, _⟩ := DataW.trod_int Tryz.underlying3 e0
    obtain ⟨A3, l3, c3, h3, k1, k2, k3⟩ := open_rowR e1
    simp only [List.cons.injEq, and_true] at h0 h3
    subst h0; subst h3
    exact ⟨n0, A3, l3, c3, rfl, k1, k2, k3⟩
set_option maxRecDepth 100000 in
theorem open_ar4 {v : Value} {d : DataW H} {ps : List MemPlace} (hval : Value.okWide Tryz.prog W .any base 26 v) (h : DataW.Trod enc Tryz.prog W 0 (fun _ => true) true 26 v d ps) :
    ∃ a : I4, v = .agg #[.int .i64 a.1, .int .i64 a.2.1, .int .i64 a.2.2.1, .int .i64 a.2.2.2] ∧ ok4 a := by
  unfold Value.okWide at hval
  rw [Tryz.underlying26] at hval
  obtain ⟨cs, rfl, hsz, _⟩ := hval
  rw [Tryz.cells26] at hsz
  obtain ⟨fuel, hf⟩ := h
  obtain ⟨l⟩ := cs
  match l, hsz with
  | [u0, u1, u2, u3], _ =>
    have hf : DataW.trod enc Tryz.prog W 0 (fun _ => true) true fuel 26 [u0, u1, u2, u3] = some (d, ps) := hf
    obtain ⟨xs, m', _, _, _, hxl, hel⟩ := DataW.trod_array Tryz.underlying26 hf
    have e0 := hel 0 (by omega)
    have e1 := hel 1 (by omega)
    have e2 := hel 2 (by omega)
    have e3 := hel 3 (by omega)
    rw [Tryz.cells3] at e0 e1 e2 e3
    simp only [Nat.mul_one, List.drop_zero, List.drop_succ_cons, List.take_succ_cons, List.take_zero] at e0 e1 e2 e3
    rw [List.getElem?_eq_getElem (by omega)] at e0 e1 e2 e3
    obtain ⟨n0, h0, _, w0⟩ := DataW.trod_int Tryz.underlying3 e0
    obtain ⟨n1, h1, _, w1⟩ := DataW.trod_int Tryz.underlying3 e1
    obtain ⟨n2, h2, _, w2⟩ := DataW.trod_int Tryz.underlying3 e2
    obtain ⟨n3, h3, _, w3⟩ := DataW.trod_int Tryz.underlying3 e3
    simp at h0 h1 h2 h3
    subst h0; subst h1; subst h2; subst h3
    exact ⟨(n0, n1, n2, n3), rfl, wf_of w0, wf_of w1, wf_of w2, wf_of w3⟩
end
theorem trodAll_five' {H : Type} {enc : TypeId × Value → H} {P : Program} {w : World} {base : Nat} {spare : Nat → Bool} {held : Bool} {t1 t2 t3 t4 t5 : TypeId} {args : Array Value} {ds : List (DataW H)} {ps : List MemPlace}
    (h : DataW.TrodAll enc P w base spare held [t1, t2, t3, t4, t5] args.toList ds ps) : ∃ v1 v2 v3 v4 v5 d1 d2 d3 d4 d5 p1 p2 p3 p4 p5, args = #[v1, v2, v3, v4, v5] ∧ ds = [d1, d2, d3, d4, d5] ∧ ps = p1 ++ p2 ++ p3 ++ p4 ++ p5 ∧
      DataW.Trod enc P w base spare held t1 v1 d1 p1 ∧ DataW.Trod enc P w base spare held t2 v2 d2 p2 ∧ DataW.Trod enc P w base spare held t3 v3 d3 p3 ∧ DataW.Trod enc P w base spare held t4 v4 d4 p4 ∧ DataW.Trod enc P w base spare held t5 v5 d5 p5 := by
  obtain ⟨v1, vs1, d1, ds1, p1, q1, e1, rfl, rfl, h1, h⟩ := trodAll_cons h
  obtain ⟨v2, vs2, d2, ds2, p2, q2, rfl, rfl, rfl, h2, h⟩ := trodAll_cons h
  obtain ⟨v3, vs3, d3, ds3, p3, q3, rfl, rfl, rfl, h3, h⟩ := trodAll_cons h
  obtain ⟨v4, vs4, d4, ds4, p4, q4, rfl, rfl, rfl, h4, h⟩ := trodAll_cons h
  obtain ⟨v5, vs5, d5, ds5, p5, q5, rfl, rfl, rfl, h5, h⟩ := trodAll_cons h
  obtain ⟨rfl, rfl, rfl⟩ := trodAll_nil h
  exact ⟨v1, v2, v3, v4, v5, d1, d2, d3, d4, d5, p1, p2, p3, p4, p5, by cases args; simp_all, rfl, by simp, h1, h2, h3, h4, h5⟩
end Go.Proofs.YtcfbgelhggapjaaGreatDoor
