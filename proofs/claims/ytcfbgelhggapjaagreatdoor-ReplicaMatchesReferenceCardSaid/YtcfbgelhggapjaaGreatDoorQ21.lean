/- Three replicas in a row that changes: what the walk of the law of order needs. -/
import Derived.Test.YtcfbgelhggapjaaGreatDoorQ19
import Derived.Test.YtcfbgelhggapjaaGreatDoorQ18
import Derived.Test.YtcfbgelhggapjaaGreatDoorQ17
namespace Go.Proofs.YtcfbgelhggapjaaGreatDoor
open Go.RowKit Go.Shelf
theorem Tryz.infoRep : (Tryz.prog.info? 25).map (fun i => (i.zero, i.size, i.bytes)) = some (some (.agg #[.int .i64 0, .slice none 0 0]), 2, 32) := by kernel_rfl
/-- a replica's two cells -/
structure En where
  p : Int
  A : Option Addr
  n : Nat
  c : Nat
instance : Inhabited En := ⟨⟨0, none, 0, 0⟩⟩
def cE (e : En) : List Value := [.int .i64 e.p, .slice e.A e.n e.c]
theorem oneE (l : List En) (u : Value) (h : u ∈ l.flatMap cE) : u.oneCell' = true := by
  obtain ⟨s, _, hu⟩ := List.mem_flatMap.1 h
  simp only [cE, List.mem_cons, List.not_mem_nil, or_false] at hu
  rcases hu with rfl | rfl <;> rfl
theorem flatE_take (l : List En) : ∀ (k : Nat), (l.flatMap cE).take (k * 2) = (l.take k).flatMap cE := by
  induction l with
  | nil => intro k; simp
  | cons x l ih =>
    intro k
    cases k with
    | zero => simp
    | succ k =>
      rw [List.flatMap_cons, show (k + 1) * 2 = (cE x).length + k * 2 by show _ = 2 + k * 2; omega, List.take_length_add_append, ih]
      rfl
theorem flatE_drop (l : List En) : ∀ (k : Nat), (l.flatMap cE).drop (k * 2) = (l.drop k).flatMap cE := by
  induction l with
  | nil => intro k; simp
  | cons x l ih =>
    intro k
    cases k with
    | zero => simp
    | succ k =>
      rw [List.flatMap_cons, show (k + 1) * 2 = (cE x).length + k * 2 by show _ = 2 + k * 2; omega, List.drop_length_add_append, ih]
      rfl
structure EnOk (W : World) (e : En) (j : Nat) (l : List Rc) : Prop where
  pen : e.p = j
  len : l.length = e.n
  hnc : e.n ≤ e.c
  hc : e.c ≤ 9223372036854775807
  slr : SlR W W.heap.size 7 e.A e.n (l.flatMap cR)
theorem EnOk.to {W W' : World} {e : En} {j : Nat} {l : List Rc} (h : EnOk W e j l) (hb : Below W.heap.size W W') : EnOk W' e j l := ⟨h.pen, h.len, h.hnc, h.hc, h.slr.to' hb⟩
/-- the three: a row of them, each with its list -/
structure Now (W : World) (A : Option Addr) (c : Nat) (es : List En) (L : List (List Rc)) : Prop where
  hc : 3 ≤ c
  hc' : c ≤ 9223372036854775807
  len : es.length = 3
  row : SlR W W.heap.size 2 A 3 (es.flatMap cE)
  ok : ∀ j, j < 3 → EnOk W es[j]! j L[j]!
theorem Now.to {W W' : World} {A : Option Addr} {c : Nat} {es : List En} {L : List (List Rc)} (h : Now W A c es L) (hb : Below W.heap.size W W') : Now W' A c es L :=
  ⟨h.hc, h.hc', h.len, h.row.to' hb, fun j hj => (h.ok j hj).to hb⟩
theorem Now.cells {W : World} {g o : Nat} {c : Nat} {es : List En} {L : List (List Rc)} (h : Now W (some ⟨g, o, none⟩) c es L) {j : Nat} (hj : j < 3) :
    W.cell? ⟨g, o + j * 2, none⟩ = some (.int .i64 (j : Int)) ∧ W.cell? ⟨g, o + j * 2 + 1, none⟩ = some (.slice (es[j]!).A (es[j]!).n (es[j]!).c) := by
  obtain ⟨b, off, e, _, hc⟩ := h.row.2 (by omega)
  simp only [Option.some.injEq, Addr.mk.injEq] at e
  obtain ⟨rfl, rfl, -⟩ := e
  have hl : j < es.length := by rw [h.len]; exact hj
  have h0 := flat_get cE 2 (fun _ => rfl) es j hl
  have e1 : es[j]! = es[j] := by simp [hl]
  have hp := (h.ok j hj).pen
  rw [e1] at hp ⊢
  refine ⟨?_, ?_⟩
  · have := hc (j * 2) _ (h0 0 (by omega))
    simpa [cE, hp] using this
  · have := hc (j * 2 + 1) _ (by simpa [cE] using h0 1 (by omega))
    rw [← Nat.add_assoc] at this
    simpa [cE] using this
theorem Now.some {W : World} {A : Option Addr} {c : Nat} {es : List En} {L : List (List Rc)} (h : Now W A c es L) : ∃ g o, A = some ⟨g, o, none⟩ ∧ g < W.heap.size := by
  obtain ⟨b, off, e, hb, _⟩ := h.row.2 (by omega)
  exact ⟨b, off, e, hb⟩
/-- the row of three that Made gives -/
theorem now_mad {W : World} {lo g : Nat} {L : List (List Rc)} (h : RpT W lo g L) : ∃ es, Now W (some ⟨g, 0, none⟩) 3 es L := by
  obtain ⟨A0, c0, k0, k0', h0⟩ := h.bx (k := 0) (by omega) rfl rfl
  obtain ⟨A1, c1, k1, k1', h1⟩ := h.bx (k := 1) (by omega) rfl rfl
  obtain ⟨A2, c2, k2, k2', h2⟩ := h.bx (k := 2) (by omega) rfl rfl
  have h0 := h0 W (Below.refl _ _)
  have h1 := h1 W (Below.refl _ _)
  have h2 := h2 W (Below.refl _ _)
  refine ⟨[⟨0, A0, (L[0]!).length, c0⟩, ⟨1, A1, (L[1]!).length, c1⟩, ⟨2, A2, (L[2]!).length, c2⟩], by omega, by omega, rfl, ⟨rfl, fun _ => ⟨g, 0, rfl, h0.2.2.1, fun j u hj => ?_⟩⟩, fun j hj => ?_⟩
  · rw [Nat.zero_add]
    match j with
    | 0 => simp only [List.flatMap_cons, cE, List.cons_append, List.getElem?_cons_zero, Option.some.injEq] at hj; subst hj; exact h0.1
    | 1 => simp [cE] at hj; subst hj; simpa using h0.2.1
    | 2 => simp [cE] at hj; subst hj; exact h1.1
    | 3 => simp [cE] at hj; subst hj; simpa using h1.2.1
    | 4 => simp [cE] at hj; subst hj; exact h2.1
    | 5 => simp [cE] at hj; subst hj; simpa using h2.2.1
    | n + 6 => simp [cE] at hj
  · rcases (show j = 0 ∨ j = 1 ∨ j = 2 by omega) with rfl | rfl | rfl
    · exact ⟨rfl, rfl, k0, k0', h0.2.2.2⟩
    · exact ⟨rfl, rfl, k1, k1', h1.2.2.2⟩
    · exact ⟨rfl, rfl, k2, k2', h2.2.2.2⟩
theorem addr_zero (A : Option Addr) : Option.map (fun x : Addr => x.add 0) A = A := by
  cases A with
  | none => rfl
  | some a => obtain ⟨b, o, s⟩ := a; cases s <;> simp [Addr.add]
/-- 's[:a]' and 's[a+1:]' -/
theorem cut_to {W : World} {A : Option Addr} {c : Nat} {es : List En} {B : Nat} (h : SlR W B 2 A 3 (es.flatMap cE)) (hc : 3 ≤ c) {a : Nat} (ha : a < 3) :
    SlR W B 2 A a ((es.take a).flatMap cE) ∧ ∀ w, (Instr.slice 28 (.slice A 3 c) none (some (.int .i64 (a : Int))) none).run Tryz.prog w = .ok (.slice A a c) w := by
  obtain ⟨j0, hj0, hz0, hz1, hz2⟩ := info_parts Tryz.infoRep
  refine ⟨?_, fun w => ?_⟩
  · have := h.upto (m := a) (by omega)
    rwa [flatE_take] at this
  · have he : Tryz.prog.elem 28 = 25 := by simp [Program.elem, Tryz.underlying28]
    have h1 : Tryz.prog.underlying 28 = some (.slice (Tryz.prog.elem 28)) := by rw [he]; exact Tryz.underlying28
    rw [run_slice_h w 28 A 3 c h1 .i64 a (by omega) (by omega), he]
    simp [sizeOf, typeInfo, hj0, Result.andThen, sliced, hz1, addr_zero]
theorem cut_from {W : World} {A : Option Addr} {c : Nat} {es : List En} {B : Nat} (h : SlR W B 2 A 3 (es.flatMap cE)) (hc : 3 ≤ c) {a : Nat} (ha : a < 3) :
    ∃ A', SlR W B 2 A' (2 - a) ((es.drop (a + 1)).flatMap cE) ∧ ∀ w, (Instr.slice 28 (.slice A 3 c) (some (.int .i64 ((a : Int) + 1))) none none).run Tryz.prog w = .ok (.slice A' (2 - a) (c - (a + 1))) w := by
  obtain ⟨j0, hj0, hz0, hz1, hz2⟩ := info_parts Tryz.infoRep
  refine ⟨if c = a + 1 then A else A.map (·.add ((a + 1) * 2)), ?_, fun w => ?_⟩
  · rcases h.drop (k := a + 1) (by omega) c with h1 | ⟨h1, h2⟩
    · rw [flatE_drop, show 3 - (a + 1) = 2 - a by omega] at h1
      exact h1
    · omega
  · have he : Tryz.prog.elem 28 = 25 := by simp [Program.elem, Tryz.underlying28]
    have h1 : Tryz.prog.underlying 28 = some (.slice (Tryz.prog.elem 28)) := by rw [he]; exact Tryz.underlying28
    rw [run_slice_l w 28 A 3 c h1 .i64 ((a : Int) + 1) (by omega) (by omega), he, show ((a : Int) + 1).toNat = a + 1 by omega]
    simp [sizeOf, typeInfo, hj0, Result.andThen, sliced, hz1, show 3 - (a + 1) = 2 - a by omega]
/-- a row that is longer than a box is not the box -/
theorem SlR.box {W : World} {B k n b : Nat} {A : Option Addr} {xs : List Value} {t : TypeId} {x y : Value} (h : SlR W B k A n xs) (hk : 0 < n → 3 ≤ n * k) (hb : Blk W b t [x, y]) (i : Nat) (v : Value) : SlR (W.setCell ⟨b, i, none⟩ v) B k A n xs := by
  refine ⟨h.1, fun hn => ?_⟩
  obtain ⟨g, off, e, hg, hc⟩ := h.2 hn
  have h3 : 2 < xs.length := by rw [h.1]; have := hk hn; omega
  have hne : g ≠ b := fun e' => by
    subst e'
    have := hc 2 _ (List.getElem?_eq_getElem h3)
    rw [hb.cell] at this
    rw [List.getElem?_eq_none (by show 2 ≤ off + 2; omega)] at this
    cases this
  refine ⟨g, off, e, hg, fun j u hj => ?_⟩
  rw [World.cell?_setCell_other _ _ _ _ (fun e' => hne (Addr.mk.inj e').1.symm)]
  exact hc j u hj
theorem Now.box {W : World} {A : Option Addr} {b c : Nat} {es : List En} {L : List (List Rc)} {t : TypeId} {x y : Value} (h : Now W A c es L) (hb : Blk W b t [x, y]) (i : Nat) (v : Value) : Now (W.setCell ⟨b, i, none⟩ v) A c es L := by
  have hs : (W.setCell ⟨b, i, none⟩ v).heap.size = W.heap.size := by simp
  refine ⟨h.hc, h.hc', h.len, ?_, fun j hj => ⟨(h.ok j hj).pen, (h.ok j hj).len, (h.ok j hj).hnc, (h.ok j hj).hc, ?_⟩⟩
  · rw [hs]; exact h.row.box (by omega) hb i v
  · rw [hs]; exact (h.ok j hj).slr.box (by omega) hb i v
/-- one of the three replaced -/
theorem Now.put {W W' : World} {A A' : Option Addr} {c c' : Nat} {es : List En} {L : List (List Rc)} (h : Now W A c es L) (hb : Below W.heap.size W W') {a : Nat} (ha : a < 3) (hL : L.length = 3) {e : En} {m : List Rc} (he : EnOk W' e a m) (hc : 3 ≤ c') (hc' : c' ≤ 9223372036854775807)
    (hr : SlR W' W'.heap.size 2 A' 3 ((es.take a ++ e :: es.drop (a + 1)).flatMap cE)) : Now W' A' c' (es.set a e) (L.set a m) := by
  have hs : es.take a ++ e :: es.drop (a + 1) = es.set a e := by rw [List.set_eq_take_append_cons_drop, if_pos (by rw [h.len]; exact ha)]
  rw [hs] at hr
  refine ⟨hc, hc', by rw [List.length_set]; exact h.len, hr, fun j hj => ?_⟩
  rw [set_get (by omega)]
  by_cases hja : j = a
  · subst hja
    rw [if_pos rfl]
    have : (es.set j e)[j]! = e := by simp [h.len, hj]
    rw [this]; exact he
  · rw [if_neg hja]
    have : (es.set a e)[j]! = es[j]! := by
      simp [List.getElem?_set_ne (fun h => hja h.symm)]
    rw [this]; exact (h.ok j hj).to hb
theorem own_emptyP (W : World) (base : Nat) (h : base ≤ W.heap.size) : (W.alloc (.cells #[] 25)).ownsRow base 25 2 (.slice (some ⟨W.heap.size, 0, none⟩) 0 0) 0 [] :=
  ⟨rfl, .inr ⟨W.heap.size, 0, #[], rfl, h, World.alloc_heap_new W _, Nat.le_refl _, Nat.zero_le _, rfl, rfl⟩⟩
theorem one2 (p : Int) (x : Option Addr × Nat × Nat) (u : Value) (h : u ∈ [Value.int .i64 p, .slice x.1 x.2.1 x.2.2]) : u.oneCell' = true := by
  simp only [List.mem_cons, List.not_mem_nil, or_false] at h
  rcases h with rfl | rfl <;> rfl
theorem flat_put (es : List En) (a : Nat) (e : En) : (es.take a).flatMap cE ++ [.int .i64 e.p, .slice e.A e.n e.c] ++ (es.drop (a + 1)).flatMap cE = (es.take a ++ e :: es.drop (a + 1)).flatMap cE := by
  simp [List.flatMap_append, List.flatMap_cons, cE]
/-- what a meeting of two of the three, stored into a box, leaves -/
def SN (wo : World) (g o c : Nat) (es : List En) (L : List (List Rc)) (b : Nat) (W : World) : Prop := Now W (some ⟨g, o, none⟩) c es L ∧ Below wo.heap.size wo W ∧ ∃ x y, Blk W b 25 [x, y]
theorem SN.to {wo : World} {g o c : Nat} {es : List En} {L : List (List Rc)} {b : Nat} {W W' : World} (h : SN wo g o c es L b W) (hb : Below W.heap.size W W') : SN wo g o c es L b W' := by
  obtain ⟨h1, h2, x, y, h3⟩ := h
  exact ⟨h1.to hb, bthen h2 hb, x, y, h3.below hb h3.lt⟩
theorem SN.store {wo : World} {g o c : Nat} {es : List En} {L : List (List Rc)} {b : Nat} {W : World} (h : SN wo g o c es L b W) (hb : wo.heap.size ≤ b) (u v : Value) : SN wo g o c es L b ((W.setCell ⟨b, 0, none⟩ u).setCell ⟨b, 1, none⟩ v) := by
  obtain ⟨h1, h2, x, y, h3⟩ := h
  exact ⟨(h1.box h3 0 u).box (h3.set 0 u) 1 v, bset (p := ⟨b, 1, none⟩) (bset (p := ⟨b, 0, none⟩) h2 hb _) hb _, u, v, (h3.set 0 u).set 1 v⟩
end Go.Proofs.YtcfbgelhggapjaaGreatDoor
/- Opening a slice of integers that came in. -/
namespace Go.Proofs.YtcfbgelhggapjaaGreatDoor
open Go.ChangeShapes Go.WideShapes Go.ChangeAt Go.RowKit Go.Deep
section
variable {H : Type} {enc : TypeId × Value → H} {W : World} {base : Nat}
def cI1 (n : Int) : List Value := [.int .i64 n]
theorem flat_I1 (l : List Int) : l.flatMap cI1 = l.map (Value.int .i64) := by
  induction l with
  | nil => rfl
  | cons x l ih => rw [List.flatMap_cons, ih]; rfl
set_option maxRecDepth 100000 in
theorem open_ints1 {v : Value} {d : DataW H} {ps : List MemPlace} (hval : Value.okWide Tryz.prog W .any base 54 v) (h : DataW.Trod enc Tryz.prog W 0 (fun _ => true) true 54 v d ps) :
    ∃ (A : Option Addr) (x : List Int) (c : Nat), v = .slice A x.length c ∧ x.length ≤ c ∧ c ≤ 9223372036854775807 ∧ (∀ s ∈ x, -9223372036854775808 ≤ s ∧ s ≤ 9223372036854775807) ∧ SlR W W.heap.size 1 A x.length (x.map (Value.int .i64)) := by
  obtain ⟨a, len, cap, rfl⟩ := okWide_slice Tryz.underlying54 hval
  obtain ⟨fuel, hf⟩ := h
  rcases open_slice Tryz.underlying54 hf with ⟨h0, _⟩ | ⟨a', len', cap', m, n, D, Pl, hcs, _, hl, hm, hmm, hx, hi⟩
  · simp [Value.cells] at h0
    obtain ⟨rfl, rfl, rfl⟩ := h0
    exact ⟨none, [], 0, rfl, by simp, by omega, by simp, SlR.nil⟩
  · simp [Value.cells] at hcs
    obtain ⟨rfl, rfl, rfl⟩ := hcs
    simp only [if_true] at hmm
    subst hmm
    rw [Tryz.cells3] at hi
    have key : ∀ i, i < len → ∃ s : Int, (-9223372036854775808 ≤ s ∧ s ≤ 9223372036854775807) ∧ W.cell? (a'.add (i * 1)) = some (.int .i64 s) := by
      intro i hil
      obtain ⟨cs', hc, ht'⟩ := hi i (by omega)
      obtain ⟨_, hcl, hat⟩ := World.cells?_some hc
      match cs', hcl with
      | [u0], _ =>
        obtain ⟨n0, h0, _, w0⟩ := DataW.trod_int Tryz.underlying3 ht'
        simp at h0
        subst h0
        refine ⟨n0, wf_of w0, ?_⟩
        have := hat 0 (by omega); simpa [Addr.add] using this
    obtain ⟨x, hxl, hxk⟩ := pick_list len key
    subst hxl
    refine ⟨some a', x, _, rfl, hl, by simpa [maxLen] using hm, fun s hs => ?_, ?_⟩
    · obtain ⟨i, hi', rfl⟩ := List.getElem_of_mem hs
      exact (hxk i hi').1
    · rw [← flat_I1]
      rcases Nat.eq_zero_or_pos x.length with h0 | h0
      · have : x = [] := List.eq_nil_of_length_eq_zero h0
        subst this
        exact SlR.nil
      · obtain ⟨b, off, spot⟩ := a'
        have c0 := (hxk 0 h0).2
        have hbl := World.block_lt_of_cell? W _ c0
        simp only [Nat.zero_mul, Addr.add, if_true] at c0 hbl
        have hsp : spot = none := by
          unfold World.cell? at c0
          cases spot with
          | none => rfl
          | some s => split at c0 <;> simp at c0
        subst hsp
        refine slr_of (k := 1) cI1 (by decide) (fun _ => rfl) x hbl fun i hi' j hj => ?_
        obtain ⟨_, k0⟩ := hxk i hi'
        have ea : (⟨b, off, none⟩ : Addr).add (i * 1) = ⟨b, off + i * 1, none⟩ := by unfold Addr.add; split <;> simp_all
        rw [ea] at k0
        match j, hj with
        | 0, _ => simpa [cI1] using k0
end
end Go.Proofs.YtcfbgelhggapjaaGreatDoor
