/- Replica: a map from keys to rows of records, each a row of its own. -/
import Derived.Test.YtcfbgelhggapjaaGreatDoorQ10
import Derived.BigRegion
import Derived.Deep.DeepCutAuto
import Derived.Test.YtcfbgelhggapjaaGreatDoorQ1
import Derived.Test.YtcfbgelhggapjaaGreatDoorQ9
namespace Go.Proofs.YtcfbgelhggapjaaGreatDoor
open Go.RowKit Go.Shelf
theorem RowM.same {w w' : World} {base g cap : Nat} {m : List Rc} (h : RowM w base g cap m) (he : w'.heap[g]? = w.heap[g]?) : RowM w' base g cap m := by
  obtain ⟨h1, h2, h3, cs, h4, h5, h6⟩ := h
  exact ⟨h1, h2, h3, cs, he.trans h4, h5, h6⟩
def zS : Value := .slice none 0 0
/-- block b is a map: a key's entry is a row of its own, at or above base, that holds F of the key -/
structure FM (w : World) (base b : Nat) (F : I2 → List Rc) (L : List (I2 × Value)) : Prop where
  im : IM w b L
  lt : b < base
  nd : (L.map (·.1)).Nodup
  row : ∀ k v, L.lookup k = some v → 0 < (F k).length ∧ ∃ g cap, v = .slice (some ⟨g, 0, none⟩) (F k).length cap ∧ RowM w base g cap (F k)
  nil : ∀ k, L.lookup k = none → F k = []
  inj : ∀ k k' v v', L.lookup k = some v → L.lookup k' = some v' → v.ownBlock = v'.ownBlock → k = k'
section
variable {w w' : World} {base b : Nat} {F : I2 → List Rc} {L : List (I2 × Value)}
theorem FM.same (h : FM w base b F L) (he : ∀ j, j < w.heap.size → w'.heap[j]? = w.heap[j]?) : FM w' base b F L :=
  ⟨h.im.same (he b h.im.lt), h.lt, h.nd, fun k v hk => by
    obtain ⟨h1, g, cap, h2, h3⟩ := h.row k v hk
    exact ⟨h1, g, cap, h2, h3.same (he g h3.lt)⟩, h.nil, h.inj⟩
theorem FM.to (h : FM w base b F L) (hb : Below w.heap.size w w') : FM w' base b F L := h.same hb.block
theorem FM.new (w : World) (base : Nat) (h : w.heap.size < base) : FM (w.alloc (.map #[] 0)) base w.heap.size (fun _ => []) [] :=
  ⟨IM.new w, h, .nil, fun k v e => (by cases e), fun _ _ => rfl, fun k _ v _ e => (by cases e)⟩
theorem FM.own (h : FM w base b F L) (k : I2) : w.ownsRow base 49 7 ((L.lookup k).getD zS) (F k).length ((F k).flatMap cR) := by
  cases hl : L.lookup k with
  | none => rw [h.nil k hl]; exact World.ownsRow_nil _ _ _ _
  | some v =>
    obtain ⟨_, g, cap, rfl, h3⟩ := h.row k v hl
    exact h3.own
theorem own_same {W W' : World} {b : Nat} {e : TypeId} {k n : Nat} {v : Value} {xs : List Value} (h : W.ownsRow b e k v n xs) (hb : ∀ j, b ≤ j → j < W.heap.size → W'.heap[j]? = W.heap[j]?) : W'.ownsRow b e k v n xs := by
  refine ⟨h.1, ?_⟩
  rcases h.2 with h | ⟨g, c', cur, q1, q2, q3, q4⟩
  · exact .inl h
  · exact .inr ⟨g, c', cur, q1, q2, (hb g q2 (Array.getElem?_eq_some_iff.1 q3).1).trans q3, q4⟩
theorem FM.ownA (h : FM w base b F L) (k : I2) (hA : w.grownBy w' (some b)) : w'.ownsRow base 49 7 ((L.lookup k).getD zS) (F k).length ((F k).flatMap cR) :=
  own_same (h.own k) fun j hj hs => hA.block j hs (fun e => by have := h.lt; cases e; omega)
theorem FM.blk (h : FM w base b F L) (k : I2) {g : Nat} (hg : ((L.lookup k).getD zS).ownBlock = some g) : base ≤ g ∧ g < w.heap.size := by
  cases hl : L.lookup k with
  | none => rw [hl] at hg; cases hg
  | some v =>
    obtain ⟨_, g', cap, rfl, h3⟩ := h.row k v hl
    rw [hl] at hg
    cases hg
    exact ⟨h3.1, h3.lt⟩
theorem FM.push (h : FM w base b F L) (k : I2) (x : Rc) {wA wB wC : World} {v' : Value} (hA : w.grownBy wA (some b)) (hsz : wA.heap.size = w.heap.size)
    (hB : wA.grownBy wB ((L.lookup k).getD zS).ownBlock) (hor : v'.ownBlock = ((L.lookup k).getD zS).ownBlock ∨ v'.ownBlock = some wA.heap.size)
    (hown : wB.ownsRow base 49 7 v' ((F k).length + 1) ((F k).flatMap cR ++ cR x)) (hC : wB.grownBy wC (some b)) (him : IM wC b (putK k v' L)) :
    FM wC base b (fun j => if j = k then F k ++ [x] else F j) (putK k v' L) := by
  have hlt := h.lt
  have hne : ∀ j, j ≠ b → j < w.heap.size → some j ≠ ((L.lookup k).getD zS).ownBlock → wC.heap[j]? = w.heap[j]? := fun j hj hs hn =>
    (hC.block j (Nat.lt_of_lt_of_le (by omega) hB.size) (fun e => by cases e; exact hj rfl)).trans ((hB.block j (by omega) hn).trans (hA.block j hs (fun e => by cases e; exact hj rfl)))
  have hl1 : (F k ++ [x]).length = (F k).length + 1 := by simp
  have hown' : wB.ownsRow base 49 7 v' (F k ++ [x]).length ((F k ++ [x]).flatMap cR) := by
    rw [hl1, List.flatMap_append]
    simpa using hown
  obtain ⟨g1, cap1, rfl, hr1⟩ := RowM.of_own hown' (by omega)
  have hg1 : (some g1 = ((L.lookup k).getD zS).ownBlock ∨ g1 = w.heap.size) := by
    rcases hor with e | e
    · exact .inl e
    · exact .inr (by rw [← hsz]; exact Option.some.inj e)
  refine ⟨him, hlt, nodup_putK _ _ _ h.nd, fun j v hj => ?_, fun j hj => ?_, fun j j' u u' hj hj' he => ?_⟩
  · rw [lookup_putK] at hj
    by_cases e : j = k
    · subst e
      rw [if_pos rfl] at hj
      cases hj
      rw [if_pos rfl]
      exact ⟨by omega, g1, cap1, rfl, hr1.same (hC.block g1 hr1.lt (fun e => by have := hr1.1; cases e; omega))⟩
    · rw [if_neg e] at hj
      rw [if_neg e]
      obtain ⟨h1, g, cap, rfl, h3⟩ := h.row j v hj
      refine ⟨h1, g, cap, rfl, h3.same (hne g (by have := h3.1; omega) h3.lt fun hh => ?_)⟩
      cases hl : L.lookup k with
      | none => rw [hl] at hh; cases hh
      | some u =>
        rw [hl] at hh
        exact e (h.inj j k _ u hj hl hh)
  · rw [lookup_putK] at hj
    by_cases e : j = k
    · rw [if_pos e] at hj; cases hj
    · rw [if_neg e] at hj ⊢
      exact h.nil j hj
  · have key : ∀ (j : I2) (u : Value), j ≠ k → L.lookup j = some u → u.ownBlock = some g1 → False := fun i t e hi hu => by
      obtain ⟨h1, g, cap, rfl, h3⟩ := h.row i t hi
      have hgg : g = g1 := Option.some.inj hu
      subst hgg
      rcases hg1 with hh | hh
      · cases hl : L.lookup k with
        | none => rw [hl] at hh; cases hh
        | some s =>
          rw [hl] at hh
          exact e (h.inj i k _ s hi hl hh)
      · have := h3.lt; omega
    rw [lookup_putK] at hj hj'
    by_cases e : j = k
    · by_cases e' : j' = k
      · rw [e, e']
      · rw [if_pos e] at hj
        rw [if_neg e'] at hj'
        cases hj
        exact (key j' u' e' hj' he.symm).elim
    · by_cases e' : j' = k
      · rw [if_neg e] at hj
        rw [if_pos e'] at hj'
        cases hj'
        exact (key j u e hj he).elim
      · rw [if_neg e] at hj
        rw [if_neg e'] at hj'
        exact h.inj j j' u u' hj hj' he
/-- what lies below base, but for the map's block, is as it was -/
theorem FM.keep (h : FM w base b F L) (k : I2) {wA wB wC : World} (hA : w.grownBy wA (some b)) (hsz : wA.heap.size = w.heap.size) (hbase : base ≤ w.heap.size) (hB : wA.grownBy wB ((L.lookup k).getD zS).ownBlock) (hC : wB.grownBy wC (some b)) {j : Nat} (hj : j < base) (hjb : j ≠ b) : wC.heap[j]? = w.heap[j]? :=
  (hC.block j (Nat.lt_of_lt_of_le (by omega) hB.size) (fun e => by cases e; exact hjb rfl)).trans ((hB.block j (by omega) (fun e => by have := (h.blk k e.symm).1; omega)).trans (hA.block j (by omega) (fun e => by cases e; exact hjb rfl)))
theorem FM.bw (h : FM w base b F L) (k : I2) {a wA wB wC : World} (ha : Below a.heap.size a w) (hab : a.heap.size ≤ b) (hA : w.grownBy wA (some b)) (hB : wA.grownBy wB ((L.lookup k).getD zS).ownBlock) (hC : wB.grownBy wC (some b)) : Below a.heap.size a wC := by
  have hlt := h.lt
  exact bgrown (bgrown (bgrown ha hA (fun j e => by cases e; exact hab)) hB (fun j e => by have := (h.blk k e).1; omega)) hC (fun j e => by cases e; exact hab)
end
end Go.Proofs.YtcfbgelhggapjaaGreatDoor
/- Replica: families. -/
namespace Go.Proofs.YtcfbgelhggapjaaGreatDoor
open Go.RowKit Go.Shelf
theorem c_sortRcAny (l : List Rc) (A : Option Addr) (cap base : Nat) (w : World) (hl : l.length ≤ 1000000) (h : w.ownsRow base 49 7 (.slice A l.length cap) l.length (l.flatMap cR)) :
    Calls Tryz.prog 79 #[.slice A l.length cap, .func (.func 46) #[] #[]] w fun e w' => e = .returned (.tuple #[]) ∧ ∃ s : List Rc, s.Perm l ∧ s.Pairwise (fun a b => bfB b a = false) ∧ w'.ownsRow base 49 7 (.slice A l.length cap) l.length (s.flatMap cR) ∧ Below base w w' := by
  have h' := h
  rcases h.2 with ⟨h1, h2⟩ | ⟨g, cap', cur, h1, h2, _⟩
  · have hl0 : l = [] := List.eq_nil_of_length_eq_zero h2
    subst hl0
    simp only [Value.slice.injEq, List.length_nil, true_and] at h1
    obtain ⟨rfl, rfl⟩ := h1
    refine (c_sortRcNone none 0 _ w).mono ?_
    rintro e w' ⟨rfl, rfl⟩
    exact ⟨rfl, [], .refl _, .nil, h', Below.refl _ _⟩
  · simp only [Value.slice.injEq, true_and] at h1
    obtain ⟨rfl, rfl⟩ := h1
    exact c_sortRc l base g cap w hl h'
/-- the records of a root among the first i of the sorted list -/
def famP (l s : List Rc) (i : Nat) (j : I2) : List Rc := (s.take i).filter (fun r => decide (keyR (rootR l r) = j))
theorem famP_succ (l s : List Rc) (i : Nat) (hi : i < s.length) : famP l s (i + 1) = fun j => if j = keyR (rootR l s[i]) then famP l s i (keyR (rootR l s[i])) ++ [s[i]] else famP l s i j := by
  funext j
  unfold famP
  rw [List.take_succ_eq_append_getElem hi, List.filter_append]
  by_cases e : j = keyR (rootR l s[i])
  · rw [if_pos e, e]; simp
  · rw [if_neg e]
    simp [Ne.symm e]
theorem famP_len (l s : List Rc) (i : Nat) (j : I2) : (famP l s i j).length ≤ i := by
  unfold famP
  have := List.length_filter_le (fun r => decide (keyR (rootR l r) = j)) (s.take i)
  rw [List.length_take] at this
  omega
/-- a map of families: the answer of 'families' -/
def FamPost (l : List Rc) (w : World) (e : Ending) (w' : World) : Prop :=
  ∃ b base L, e = .returned (.map (some b)) ∧ w.heap.size ≤ b ∧ base ≤ w'.heap.size ∧ FM w' base b (famL l) L ∧ Below w.heap.size w w'
theorem gA7 {w5 wA : World} {b : Nat} {o : Obj} {x : Rc} (h0 : b < w5.heap.size)
    (hA : ((w5.alloc o).alloc (.cells #[.int .i64 x.pen, .int .i64 x.num, .int .i64 x.at_, .int .i64 x.of, .int .i64 x.which, .int .i64 x.kind, .string x.text] 49)).grownBy wA (some b)) : Blk wA (w5.heap.size + 1) 49 (cR x) := by
  have h := Blk.new (w5.alloc o) 49 (cR x)
  rw [show (w5.alloc o).heap.size = w5.heap.size + 1 from by simp] at h
  exact (hA.block _ h.lt (fun e => by cases e; omega)).trans h
theorem hneq {w : World} {base b : Nat} {F : I2 → List Rc} {L : List (I2 × Value)} {q : I2} {v : Value} (h : FM w base b F L) (hv : (L.lookup q).getD zS = v) : some b ≠ v.ownBlock := fun e => by
  have := (h.blk q (g := b) (by rw [hv]; exact e.symm)).1
  have := h.lt
  omega
theorem zvS (w : World) : (zeroValue 23).run Tryz.prog w = .ok zS w := Tryz.zeroValue23 w
set_option linter.unusedSimpArgs false in
set_option maxRecDepth 100000 in
set_option maxHeartbeats 8000000 in
theorem c_families (p : Int) (A : Option Addr) (N c : Nat) (l : List Rc) (w : World) (hR : RL w) (hV : VL l) (hl : N ≤ 150) (hr : SlR w w.heap.size 7 A N (l.flatMap cR)) :
    Calls Tryz.prog 43 #[rpV p A N c] w (FamPost l w) := by
  have HL := hide hr.lenR
  have HN150 := hide hl
  have HV := hide hV
  have hmm := @run_makeMap Tryz.prog
  have hb0 := balloc (Below.refl w.heap.size w) (.cells #[.int .i64 p, .slice A N c] 25)
  have gR := Blk.new w 25 [.int .i64 p, .slice A N c]
  obtain ⟨w0, hw0⟩ : ∃ w0, w.alloc (.cells #[.int .i64 p, .slice A N c] 25) = w0 := ⟨_, rfl⟩
  rw [hw0] at hb0 gR
  have hcb := c_pbooked A N c l w0 hV.nd (by omega) (hr.to' hb0)
  have HH : Hid (∀ W, Below w0.heap.size w0 W → Blk W w.heap.size 25 [.int .i64 p, .slice A N c] ∧ SlR W W.heap.size 7 A N (l.flatMap cR) ∧ RL W ∧ Below w.heap.size w W) := hide (fun W h => ⟨gR.below h gR.lt, hr.to' (bthen hb0 h), hR.to' (bthen hb0 h), bthen hb0 h⟩)
  obtain ⟨r0, r1⟩ := gR.two
  have HS0 : Hid (w.heap.size < w0.heap.size) := hide gR.lt
  have HW0 := hide hw0
  have hlt := gR.lt
  clear hw0 gR hb0 hr hR hV
  unfold rpV
  go_enter Tryz.func43, Tryz.ntmps43
  go_wp2_with fail
  rw [HW0.out]
  refine hcb.mono ?_
  clear hcb r0 r1
  rintro e w1 ⟨b1, rfl, hb1, hbk, hbw1⟩
  obtain ⟨w2, hw2⟩ : ∃ w2, w1.alloc (.map #[] 0) = w2 := ⟨_, rfl⟩
  have h2 : Below w0.heap.size w0 w2 := by rw [← hw2]; exact balloc hbw1 _
  obtain ⟨gR, hsl, hRL, hbw⟩ := HH.out _ h2
  have hcl := c_sClone A N c l w2 (by omega) hsl
  obtain ⟨r0, r1⟩ := gR.two
  have hW2 := hide hw2
  rw [← hw2] at r0 r1
  obtain ⟨t0, t1⟩ := (HH.out _ hbw1).1.two
  have h1s : w.heap.size < w1.heap.size := (Nat.lt_of_lt_of_le HS0.out hbw1.size)
  have HBK := hide hbk
  have HB1 := hide hb1
  have H1 := hide hbw1
  have H2 := hide h2
  clear hw2 gR hsl hRL hbw hbk hbw1 h2 hb1
  go_wp2_with fail
  rw [hW2.out]
  refine hcl.mono ?_
  clear hcl r0 r1 t0 t1 hmm
  rintro e w3 ⟨v3, rfl, hown, hb3⟩
  obtain ⟨A3, c3, rfl, h31, h32, -⟩ := SlR.of_own hown
  have hlN : l.length = N := HL.out
  rw [← hlN] at hown
  have hsrt := c_sortRcAny l A3 c3 _ w3 (by omega) hown
  rw [hlN] at hsrt
  have HB3 := hide hb3
  clear hb3 hown hlN
  go_wp2_with fail
  refine hsrt.mono ?_
  clear hsrt
  rintro e w4 ⟨rfl, s, hp, hss, hown4, hb4⟩
  obtain rfl := ord_of_perm HV.out.nd hp hss
  have hsN : (ordL l).length = N := by rw [hp.length_eq]; exact HL.out
  have hs2 : w2.heap.size = w1.heap.size + 1 := by rw [← hW2.out]; simp
  have h24 : Below w2.heap.size w2 w4 := HB3.out.trans hb4
  have h04 : Below w0.heap.size w0 w4 := bthen H2.out h24
  obtain ⟨-, -, hRL4, hbw4⟩ := HH.out _ h04
  have h12 : Below w1.heap.size w1 w2 := by rw [← hW2.out]; exact balloc (Below.refl _ _) _
  have hbk4 : BK w4 b1 l := HBK.out.to (h12.trans (h24.mono (by omega)))
  have hFM0 : FM w4 w4.heap.size w1.heap.size (famP l (ordL l) 0) [] := by
    have h := FM.new w1 w4.heap.size (by have := h24.size; omega)
    rw [hW2.out] at h
    exact h.to h24
  have hb1l := HBK.out.lt
  have hw1p : 0 < w1.heap.size := by omega
  have h24s := h24.size
  have HOwn : Hid (∀ W, (∀ j, j < w4.heap.size → j ≠ w1.heap.size → W.heap[j]? = w4.heap[j]?) → SlR W W.heap.size 7 A3 N ((ordL l).flatMap cR) ∧ BK W b1 l ∧ RL W) := hide (fun W hW => by
    have h1 : W.ownsRow w2.heap.size 49 7 (.slice A3 N c3) N ((ordL l).flatMap cR) := own_same hown4 (fun j hj hs => hW j hs (by omega))
    obtain ⟨L, hL1, hL2⟩ := hbk4
    refine ⟨(own_row h1).2.2, ⟨L, hL1.same (hW _ (by omega) (by omega)), hL2⟩, ?_⟩
    exact ⟨(cell_same (hW 0 (by omega) (by omega))).trans hRL4.1, (cell_same (hW 0 (by omega) (by omega))).trans hRL4.2⟩)
  have HBw4 := hide hbw4
  have HFM0 := hide hFM0
  have HSN := hide hsN
  have HMem : Hid (∀ (i : Nat) (h : i < (ordL l).length), (ordL l)[i] ∈ l) := hide (fun i h => mem_ord.1 (List.getElem_mem h))
  have Hbw : Hid (w.heap.size ≤ w1.heap.size) := hide (by omega)
  have H14 : Hid (w1.heap.size < w4.heap.size) := hide (by omega)
  have hfs := fun i (h : i < (ordL l).length) => famP_succ l (ordL l) i h
  have HFS := hide hfs
  have hfl : famL l = famP l (ordL l) N := by funext j; unfold famL famP; rw [← hsN, List.take_length]
  have HFL := hide hfl
  clear hp hss hown4 hb4 h24 h04 hRL4 hbw4 hbk4 hFM0 hs2 hsN hb1l hw1p h24s hfs hfl h31 h32 hl h12
  generalize ordL l = s at *
  go_wp2
  go_loopw [20] (fun i wr => ∃ k : Nat, k ≤ N ∧ i = .int .i64 k ∧ (∃ Lm, FM wr w4.heap.size w1.heap.size (famP l s k) Lm) ∧ (∀ j, j < w4.heap.size → j ≠ w1.heap.size → wr.heap[j]? = w4.heap[j]?) ∧ Below w.heap.size w wr ∧ w4.heap.size ≤ wr.heap.size) (fun i _ => N - (intOf i).toNat)
  case atStart => exact ⟨0, Nat.zero_le _, rfl, ⟨[], HFM0.out⟩, fun _ _ _ => rfl, HBw4.out, Nat.le_refl _⟩
  case round =>
    obtain ⟨k, hk, rfl, ⟨Lm, hfm⟩, hkp, hb, hsz⟩ := hrel
    by_cases hlt : k < N
    · have hks : k < s.length := by have := HSN.out; omega
      obtain ⟨hsl, hbk, hRL⟩ := HOwn.out wr hkp
      obtain ⟨b', off, rfl, hbb⟩ := hsl.some_of (by omega)
      obtain ⟨-, x0, x1, x2, x3, x4, x5, x6⟩ := hsl.cellsR (Below.refl _ _) hks
      have hji : (k : Int) < (N : Int) := by omega
      have hmem := HMem.out k hks
      have hFk := HFS.out k hks
      generalize s[k] = x at *
      have hX := balloc (Below.refl wr.heap.size wr) (.cells #[.int .i64 x.pen, .int .i64 x.num, .int .i64 x.at_, .int .i64 x.of, .int .i64 x.which, .int .i64 x.kind, .string x.text] 49)
      have hrt := c_broot b1 l x _ HV.out hmem (hbk.to hX) (hRL.to' hX)
      obtain ⟨W, hW⟩ : ∃ W, wr.alloc (.cells #[.int .i64 x.pen, .int .i64 x.num, .int .i64 x.at_, .int .i64 x.of, .int .i64 x.which, .int .i64 x.kind, .string x.text] 49) = W := ⟨_, rfl⟩
      have HW := hide hW
      have gX : Blk W wr.heap.size 49 (cR x) := by rw [← hW]; exact Blk.new wr 49 (cR x)
      rw [hW] at hrt hX
      have HB0 := hide hb
      have hwW : wr.heap.size < W.heap.size := gX.lt
      have HgX := hide gX
      have HX := hide hX
      have HF := hide hfm
      have HK := hide hkp
      have HFk := hide hFk
      generalize hkk : keyR (rootR l x) = q at *
      obtain ⟨q1, q2⟩ := q
      unfold rcV kV at hrt
      dsimp only at hrt
      clear hW hX gX hsl hbk hRL hb hfm hkp hFk hkk hmem
      obtain ⟨i0, hi, hz0, hz1, hz2⟩ := info_parts Tryz.infoRec
      obtain ⟨v, hv⟩ : ∃ v, (Lm.lookup (q1, q2)).getD zS = v := ⟨_, rfl⟩
      have HV2 := hide hv
      obtain ⟨m, hm⟩ : ∃ m, famP l s k (q1, q2) = m := ⟨_, rfl⟩
      have hml : m.length ≤ 150 := by rw [← hm]; have := famP_len l s k (q1, q2); have := HN150.out; omega
      have HM := hide hm
      clear hv hm
      go_wp2_with (first | (go_at_call 59; rw [HW.out]; refine hrt.mono ?_; clear hrt x0 x1 x2 x3 x4 x5 x6; rintro e w5 ⟨rfl, hb5⟩; obtain ⟨y0, y1, y2, y3, y4, y5, y6⟩ := (HgX.out.below hb5 HgX.out.lt).allR; have hw5 : wr.heap.size < w5.heap.size := (Nat.lt_of_lt_of_le hwW hb5.size); have h57 := balloc (balloc (bthen HX.out hb5) (.cells #[.int .i64 q1, .int .i64 q2] 70)) (.cells #[.int .i64 x.pen, .int .i64 x.num, .int .i64 x.at_, .int .i64 x.of, .int .i64 x.which, .int .i64 x.kind, .string x.text] 49); have hfm7 := HF.out.to h57; have HF7 := hide hfm7; have H57 := hide h57; have him7 := hfm7.im; have HS7 : Hid (w4.heap.size ≤ ((w5.alloc (.cells #[.int .i64 q1, .int .i64 q2] 70)).alloc (.cells #[.int .i64 x.pen, .int .i64 x.num, .int .i64 x.at_, .int .i64 x.of, .int .i64 x.which, .int .i64 x.kind, .string x.text] 49)).heap.size) := hide (Nat.le_trans hsz h57.size); clear hfm7 h57 hb5) |
        (refine wpList_mapEntry_im rfl (.tmp 27) (.tmp 28) 67 rfl 70 23 zS Tryz.underlying67 keyP zvS rfl him7 (q1, q2) rfl v HV2.out ?_; intro st wA hA hszA hbA hst; have HST := hide hst; clear hst; have HA := hide hA; have HSZ := hide hszA; have hownA := HF7.out.ownA (q1, q2) hA; rw [HV2.out, HM.out] at hownA; have gA : Blk wA (w5.heap.size + 1) 49 (cR x) := gA7 (Nat.lt_of_lt_of_le H14.out (Nat.le_trans hsz (Nat.le_of_lt hw5))) HA.out; have gS := gA.slr (k := 7) (n := 1) rfl; clear hA hszA hbA gA y0 y1 y2 y3 y4 y5 y6 him7) |
        (at_builtin; refine wpList_append_sl (size := 7) rfl _ _ 23 rfl w4.heap.size 49 i0 zV 64 Tryz.underlying23 hi hz0 hz1 hz2 rfl (by decide) v m.length (m.flatMap cR) rfl hownA 1 1 (cR x) rfl gS (Below.refl _ _) (fun u hu => oneR [x] u (by simpa using hu)) (by unfold maxLen; omega) (by omega) (by rw [HSZ.out]; exact HS7.out) ?_; intro v' wB hownB hB hor; have hne : some w1.heap.size ≠ v.ownBlock := hneq HF7.out HV2.out; obtain ⟨wC, hrunC, himC, hC, hszC⟩ := HST.out wB v' (hB.block _ (by rw [HSZ.out]; exact HF7.out.im.lt) hne); have HO := hide (And.intro hownB (And.intro hB hor)); have HC := hide (And.intro hrunC (And.intro himC (And.intro hC hszC))); clear hownB hB hor hrunC himC hC hszC hne hownA gS) |
        (refine wpList_entryStore_im rfl (.tmp 27) (.tmp 34) (.tmp 33) 67 rfl st v' rfl rfl rfl wC HC.out.1 ?_))
      obtain ⟨hownB, hB, hor⟩ := HO.out
      obtain ⟨-, himC, hC, hszC⟩ := HC.out
      have hfm7 := HF7.out
      have hw1 : wrap64 ((k : Int) + 1) = ((k + 1 : Nat) : Int) := (Go.IntWalk.wrap64_in _ (by have := HN150.out; omega)).trans rfl
      rw [hw1]
      clear hw1
      have hm1 : N - (k + 1) < N - k := by omega
      refine ⟨⟨k + 1, hlt, rfl, ⟨putK (q1, q2) v' Lm, ?_⟩, fun j hj hjb => ?_, ?_, ?_⟩, hm1⟩
      · rw [HFk.out]
        rw [← HV2.out] at hB hor
        refine hfm7.push (q1, q2) x HA.out HSZ.out hB (v' := v') hor ?_ hC himC
        rw [HM.out]
        exact hownB
      · rw [← HV2.out] at hB
        exact (hfm7.keep (q1, q2) HA.out HSZ.out HS7.out hB hC hj hjb).trans ((H57.out.block j (by omega)).trans (HK.out j hj hjb))
      · rw [← HV2.out] at hB
        exact hfm7.bw (q1, q2) (bthen HB0.out H57.out) Hbw.out HA.out hB hC
      · have h1 := HSZ.out
        have h2 := hB.size
        have h3 := HS7.out
        omega
    · obtain rfl : k = N := by omega
      have HE := hide (And.intro (Exists.intro Lm hfm) (And.intro hb hsz))
      clear hfm hkp hb hsz
      go_wp2
      go_ret
      obtain ⟨⟨Lm, hfm⟩, hb, hsz⟩ := HE.out
      exact ⟨_, _, Lm, rfl, Hbw.out, hsz, by rw [HFL.out]; exact hfm, hb⟩
end Go.Proofs.YtcfbgelhggapjaaGreatDoor
/- Replica: the package's History. -/
namespace Go.Proofs.YtcfbgelhggapjaaGreatDoor
open Go.RowKit Go.Shelf
set_option linter.unusedSimpArgs false in
set_option maxRecDepth 100000 in
set_option maxHeartbeats 8000000 in
theorem c_pHistory (p : Int) (A : Option Addr) (N c : Nat) (l : List Rc) (k1 k2 : Int) (w : World) (hR : RL w) (hN : N ≤ 9223372036854775807) (hr : SlR w w.heap.size 7 A N (l.flatMap cR)) :
    Calls Tryz.prog 24 #[rpV p A N c, .int .i64 k1, .int .i64 k2] w (BehPost (if vrB p l then histL l (k1, k2) else none) w) := by
  have HL := hide hr.lenR
  have hb0 := balloc (Below.refl w.heap.size w) (.cells #[.int .i64 p, .slice A N c] 25)
  have gR := Blk.new w 25 [.int .i64 p, .slice A N c]
  obtain ⟨w0, hw0⟩ : ∃ w0, w.alloc (.cells #[.int .i64 p, .slice A N c] 25) = w0 := ⟨_, rfl⟩
  rw [hw0] at hb0
  have gR : Blk w0 w.heap.size 25 [.int .i64 p, .slice A N c] := by rw [← hw0]; exact gR
  have hcv := c_pValid p A N c l w0 (hR.to' hb0) (hr.to' hb0) hN
  have HH : Hid (∀ W, Below w0.heap.size w0 W → Blk W w.heap.size 25 [.int .i64 p, .slice A N c] ∧ SlR W W.heap.size 7 A N (l.flatMap cR) ∧ RL W ∧ Below w.heap.size w W) := hide (fun W h => ⟨gR.below h gR.lt, hr.to' (bthen hb0 h), hR.to' (bthen hb0 h), bthen hb0 h⟩)
  obtain ⟨r0, r1⟩ := gR.two
  have HS0 : Hid (w.heap.size < w0.heap.size) := hide gR.lt
  have HW0 := hide hw0
  have hlt := gR.lt
  have HB0 := hide hb0
  clear hw0 gR hb0 hr hR
  unfold rpV
  unfold rpV at hcv
  cases hvr : vrB p l with
  | false =>
    rw [hvr] at hcv
    clear hvr
    go_enter Tryz.func24, Tryz.ntmps24
    go_wp2_with (go_at_call 16; rw [HW0.out]; refine hcv.mono ?_; clear hcv r0 r1; rintro e w1 ⟨rfl, hb1⟩)
    go_ret2
    exact ⟨(HH.out _ hb1).2.2.2, .inl ⟨by simp, rfl⟩⟩
  | true =>
    rw [hvr] at hcv
    obtain ⟨-, hl150, hV⟩ := vr_iff.1 hvr
    have HV := hide hV
    have hcb := fun (w1 : World) (h : SlR w1 w1.heap.size 7 A N (l.flatMap cR)) => c_pbooked A N c l w1 HV.out.nd hN h
    have HCB := hide hcb
    have HN : Hid (N ≤ 150) := hide (by have := HL.out; omega)
    clear hvr hV hcb
    cases hf : fdR (k1, k2) l with
    | none =>
      have HF := hide hf
      clear hf
      go_enter Tryz.func24, Tryz.ntmps24
      go_wp2_with (first | (go_at_call 16; rw [HW0.out]; refine hcv.mono ?_; clear hcv r0 r1; rintro e w1 ⟨rfl, hb1⟩; obtain ⟨gR1, hsl, -, -⟩ := HH.out _ hb1; obtain ⟨s0, s1⟩ := gR1.two; have hcb := HCB.out _ hsl; have h1s := gR1.lt; have H1 := hide hb1; clear gR1 hsl hb1) |
        (go_at_call 52; refine hcb.mono ?_; clear hcb s0 s1; rintro e w2 ⟨b, rfl, hb2, hbk, hbw2⟩; have HBK := hide hbk; have HB2 := hide hbw2; obtain ⟨Lm, him, hlk⟩ := hbk; have hlk1 := hlk (k1, k2); rw [HF.out] at hlk1; have HLK := hide hlk1; clear hlk hlk1 hbw2 hb2) |
        (at_lookup; refine wpList_lookup_im rfl _ _ 79 true rfl 70 49 zV Tryz.underlying79 keyP (zvRec _) rfl him (k1, k2) rfl (.tuple #[zV, .bool false]) (by rw [HLK.out]; rfl) ?_; clear him))
      go_ret2
      exact ⟨balloc (HH.out _ (bthen H1.out HB2.out)).2.2.2 _, .inl ⟨by simp [histL, HF.out], rfl⟩⟩
    | some x =>
      have HF := hide hf
      clear hf
      obtain ⟨p1, n1, t1, o1, wh1, kk1, tx1⟩ := x
      go_enter Tryz.func24, Tryz.ntmps24
      go_wp2_with (first | (go_at_call 16; rw [HW0.out]; refine hcv.mono ?_; clear hcv r0 r1; rintro e w1 ⟨rfl, hb1⟩; obtain ⟨gR1, hsl, -, -⟩ := HH.out _ hb1; obtain ⟨s0, s1⟩ := gR1.two; have hcb := HCB.out _ hsl; have h1s := gR1.lt; have H1 := hide hb1; clear gR1 hsl hb1) |
        (go_at_call 52; refine hcb.mono ?_; clear hcb s0 s1; rintro e w2 ⟨b, rfl, hb2, hbk, hbw2⟩; have HBK := hide hbk; have HB2 := hide hbw2; obtain ⟨Lm, him, hlk⟩ := hbk; have hlk1 := hlk (k1, k2); rw [HF.out] at hlk1; have HLK := hide hlk1; clear hlk hlk1 hbw2 hb2) |
        (at_lookup; refine wpList_lookup_im rfl _ _ 79 true rfl 70 49 zV Tryz.underlying79 keyP (zvRec _) rfl him (k1, k2) rfl (.tuple #[.agg #[.int .i64 p1, .int .i64 n1, .int .i64 t1, .int .i64 o1, .int .i64 wh1, .int .i64 kk1, .string tx1], .bool true]) (by rw [HLK.out]; rfl) ?_; clear him))
      have hmem : (⟨p1, n1, t1, o1, wh1, kk1, tx1⟩ : Rc) ∈ l := ((fd_iff HV.out.nd).1 HF.out).1
      generalize hW : w2.alloc (.cells #[.int .i64 p1, .int .i64 n1, .int .i64 t1, .int .i64 o1, .int .i64 wh1, .int .i64 kk1, .string tx1] 49) = W
      have hb2W : Below w2.heap.size w2 W := by rw [← hW]; exact balloc (Below.refl _ _) _
      have gX : Blk W w2.heap.size 49 (cR ⟨p1, n1, t1, o1, wh1, kk1, tx1⟩) := by rw [← hW]; exact Blk.new w2 49 (cR ⟨p1, n1, t1, o1, wh1, kk1, tx1⟩)
      have hbW : Below w0.heap.size w0 W := bthen (bthen H1.out HB2.out) hb2W
      have hbkW := HBK.out.to hb2W
      have HX : Hid (∀ W', Below W.heap.size W W' → W'.cell? ⟨w.heap.size, 0, none⟩ = some (.int .i64 p) ∧ W'.cell? ⟨w.heap.size, 1, none⟩ = some (.slice A N c) ∧ W'.cell? ⟨w2.heap.size, 0, none⟩ = some (.int .i64 p1) ∧ W'.cell? ⟨w2.heap.size, 1, none⟩ = some (.int .i64 n1) ∧ W'.cell? ⟨w2.heap.size, 2, none⟩ = some (.int .i64 t1) ∧ W'.cell? ⟨w2.heap.size, 3, none⟩ = some (.int .i64 o1) ∧ W'.cell? ⟨w2.heap.size, 4, none⟩ = some (.int .i64 wh1) ∧ W'.cell? ⟨w2.heap.size, 5, none⟩ = some (.int .i64 kk1) ∧ W'.cell? ⟨w2.heap.size, 6, none⟩ = some (.string tx1)) := hide (fun W' h => by
        have g1 := (HH.out W' (bthen hbW h)).1
        have g2 := gX.below h gX.lt
        exact ⟨g1.cell 0, g1.cell 1, g2.cell 0, g2.cell 1, g2.cell 2, g2.cell 3, g2.cell 4, g2.cell 5, g2.cell 6⟩)
      obtain ⟨-, hsl, hRL, hbw⟩ := HH.out _ (bthen hbW (bdrew (Below.refl W.heap.size W)))
      have hfa := c_families p A N c l W.drew hRL HV.out HN.out hsl
      have HRT : Hid (∀ W', Below W.heap.size W W' → Calls Tryz.prog 59 #[.map (some b), rcV ⟨p1, n1, t1, o1, wh1, kk1, tx1⟩] W' fun e w' => e = .returned (kV (keyR (rootR l ⟨p1, n1, t1, o1, wh1, kk1, tx1⟩))) ∧ Below W'.heap.size W' w') := hide (fun W' h => c_broot b l _ W' HV.out hmem (hbkW.to h) (HH.out W' (bthen hbW h)).2.2.1)
      have HHL : Hid (histL l (k1, k2) = some (famL l (keyR (rootR l ⟨p1, n1, t1, o1, wh1, kk1, tx1⟩)))) := hide (by unfold histL; rw [HF.out]; rfl)
      have HNE : Hid (famL l (keyR (rootR l ⟨p1, n1, t1, o1, wh1, kk1, tx1⟩)) ≠ []) := hide (fun e => by
        have := (mem_fam (l := l) (k := keyR (rootR l ⟨p1, n1, t1, o1, wh1, kk1, tx1⟩))).2 ⟨hmem, rfl⟩
        rw [e] at this
        cases this)
      generalize keyR (rootR l ⟨p1, n1, t1, o1, wh1, kk1, tx1⟩) = q at *
      obtain ⟨q1, q2⟩ := q
      have HBw := hide (HH.out _ hbW).2.2.2
      unfold rcV kV at HRT
      dsimp only at HRT
      unfold rpV at hfa
      clear hsl hRL hbw hbkW hbW gX hb2W hmem hW
      refine wp_region_held_drew (S := fun W' => W'.cell? ⟨w.heap.size, 0, none⟩ = some (.int .i64 p) ∧ W'.cell? ⟨w.heap.size, 1, none⟩ = some (.slice A N c) ∧ W'.cell? ⟨w2.heap.size, 0, none⟩ = some (.int .i64 p1) ∧ W'.cell? ⟨w2.heap.size, 1, none⟩ = some (.int .i64 n1) ∧ W'.cell? ⟨w2.heap.size, 2, none⟩ = some (.int .i64 t1) ∧ W'.cell? ⟨w2.heap.size, 3, none⟩ = some (.int .i64 o1) ∧ W'.cell? ⟨w2.heap.size, 4, none⟩ = some (.int .i64 wh1) ∧ W'.cell? ⟨w2.heap.size, 5, none⟩ = some (.int .i64 kk1) ∧ W'.cell? ⟨w2.heap.size, 6, none⟩ = some (.string tx1)) (by kernel_rfl) (HX.out _ (bdrew (Below.refl _ _))) (fun hHeld => ?_)
      refine wpAnyH_take (i := 0) (v := ?_) rfl (by kernel_rfl) (by kernel_rfl) (by kernel_rfl) (fun _ _ _ h => h) (Or.inl ⟨by rfl, ?hy1⟩) (by assumption) ?rs1
      case hy1 => (intro w hSw; (try dsimp only at hSw); go_simp; try (with_reducible rfl))
      (try simp only [Act.put, List.setIfInBounds_toArray, List.set_cons_zero, List.set_cons_succ, List.getElem_toArray, List.getElem_cons_zero, List.getElem_cons_succ])
      refine wpAnyH_take (i := 2) (v := ?_) rfl (by kernel_rfl) (by kernel_rfl) (by kernel_rfl) (fun _ _ _ h => h) (Or.inl ⟨by rfl, ?hy2⟩) (by assumption) ?rs2
      case hy2 => (intro w hSw; (try dsimp only at hSw); go_simp; try (with_reducible rfl))
      (try simp only [Act.put, List.setIfInBounds_toArray, List.set_cons_zero, List.set_cons_succ, List.getElem_toArray, List.getElem_cons_zero, List.getElem_cons_succ])
      refine wpAnyH_take (i := 3) (v := ?_) rfl (by kernel_rfl) (by kernel_rfl) (by kernel_rfl) (fun _ _ _ h => h) (Or.inl ⟨by rfl, ?hy3⟩) (by assumption) ?rs3
      case hy3 => (intro w hSw; (try dsimp only at hSw); go_simp; try (with_reducible rfl))
      (try simp only [Act.put, List.setIfInBounds_toArray, List.set_cons_zero, List.set_cons_succ, List.getElem_toArray, List.getElem_cons_zero, List.getElem_cons_succ])
      refine wpAnyH_ready (rs := [1]) (by kernel_rfl) (by simp) ?_
      refine AllReadyH.cons rfl (fun K hK => ?_) ?_
      · go_simp
        refine hfa.mono ?_
        clear hfa
        rintro e w4 ⟨bf, base, L, rfl, hbf, hbs, hfm, hb4⟩
        have h4 := hide (bthen (bdrew (Below.refl W.heap.size W)) hb4)
        have HFM := hide hfm
        have HBF := hide hbf
        have hrt := HRT.out w4 h4.out
        clear hb4 hfm hbf hbs
        refine hK.out _ _ (by exact (HX.out _ h4.out)) (fun hHeld => ?_)
        clear hK K
        (try simp only [Act.put, List.setIfInBounds_toArray, List.set_cons_zero, List.set_cons_succ, List.getElem_toArray, List.getElem_cons_zero, List.getElem_cons_succ])
        refine wpAnyH_ready (rs := [4]) (by kernel_rfl) (by simp) ?_
        refine AllReadyH.cons rfl (fun K hK => ?_) ?_
        · go_simp
          refine hrt.mono ?_
          clear hrt
          rintro e w5 ⟨rfl, hb5⟩
          have h5 := hide (bthen h4.out hb5)
          have hfm5 := HFM.out.to hb5
          have hlr := hfm5.im.run_lookup (P := Tryz.prog) Tryz.underlying67 keyP (zvS w5) (q1, q2) false
          have HF5 := hide hfm5
          have HB5 := hide hb5
          obtain ⟨v, hv⟩ : ∃ v, L.lookup (q1, q2) = some v := by
            cases h : L.lookup (q1, q2) with
            | none => exact absurd (hfm5.nil _ h) HNE.out
            | some v => exact ⟨v, rfl⟩
          obtain ⟨-, g, cap, rfl, hrow⟩ := hfm5.row _ _ hv
          rw [if_neg (by decide), hv, Option.getD_some] at hlr
          unfold kK at hlr
          have HRW := hide (And.intro hrow HBF.out)
          generalize hml : (famL l (q1, q2)).length = nn at hlr
          have HML := hide hml
          clear hb5 hfm5 hv hrow hml
          refine hK.out _ _ (by exact (HX.out _ h5.out)) (fun hHeld => ?_)
          clear hK K
          (try simp only [Act.put, List.setIfInBounds_toArray, List.set_cons_zero, List.set_cons_succ, List.getElem_toArray, List.getElem_cons_zero, List.getElem_cons_succ])
          refine wpAnyH_ready (rs := [5]) (by kernel_rfl) (by simp) ?_
          refine AllReadyH.cons rfl (fun K hK => ?_) ?_
          · go_simp
            refine hK.out _ _ (by exact (HX.out _ h5.out)) (fun hHeld => ?_)
            clear hK K
            (try simp only [Act.put, List.setIfInBounds_toArray, List.set_cons_zero, List.set_cons_succ, List.getElem_toArray, List.getElem_cons_zero, List.getElem_cons_succ])
            refine wpAnyH_take (i := 6) (v := ?_) rfl (by kernel_rfl) (by kernel_rfl) (by kernel_rfl) (fun _ _ _ h => h) (Or.inl ⟨by rfl, ?hy4⟩) (by assumption) ?rs4
            case hy4 => (intro w hSw; (try dsimp only at hSw); go_simp; try (with_reducible rfl))
            (try simp only [Act.put, List.setIfInBounds_toArray, List.set_cons_zero, List.set_cons_succ, List.getElem_toArray, List.getElem_cons_zero, List.getElem_cons_succ])
            refine wpAnyH_take (i := 7) (v := ?_) rfl (by kernel_rfl) (by kernel_rfl) (by kernel_rfl) (fun _ _ _ h => h) (Or.inl ⟨by rfl, ?hy5⟩) (by assumption) ?rs5
            case hy5 => (intro w hSw; (try dsimp only at hSw); go_simp; try (with_reducible rfl))
            (try simp only [Act.put, List.setIfInBounds_toArray, List.set_cons_zero, List.set_cons_succ, List.getElem_toArray, List.getElem_cons_zero, List.getElem_cons_succ])
            refine wpAnyH_done (by kernel_rfl) ?_ _
            go_wp2_with fail
            go_ret2
            obtain ⟨h1, h2⟩ := HRW.out
            have hww : w.heap.size ≤ W.heap.size := HBw.out.size
            have hwd : W.drew.heap.size = W.heap.size := rfl
            have hlt5 := HF5.out.lt
            have h6 := own_row h1.own
            refine ⟨bthen HBw.out h5.out, .inr ⟨famL l (q1, q2), some ⟨g, 0, none⟩, cap, by simpa using HHL.out, by rw [← HML.out]; rfl, h6.1, by have := h6.2.1; unfold maxLen at this; omega, (own_sln h1.own).mono (by omega)⟩⟩
          · exact AllReadyH.nil
        · exact AllReadyH.nil
      · exact AllReadyH.nil
end Go.Proofs.YtcfbgelhggapjaaGreatDoor
/- Replica: the order of families (Fold's function literal). -/
namespace Go.Proofs.YtcfbgelhggapjaaGreatDoor
open Go.RowKit Go.Shelf
/-- block g's first record is r, wherever the world grew from W -/
def Hd (W : World) (g : Nat) (r : Rc) : Prop := W.cell? ⟨g, 0, none⟩ = some (.int .i64 r.pen) ∧ W.cell? ⟨g, 1, none⟩ = some (.int .i64 r.num) ∧ W.cell? ⟨g, 2, none⟩ = some (.int .i64 r.at_) ∧ W.cell? ⟨g, 3, none⟩ = some (.int .i64 r.of) ∧ W.cell? ⟨g, 4, none⟩ = some (.int .i64 r.which) ∧ W.cell? ⟨g, 5, none⟩ = some (.int .i64 r.kind) ∧ W.cell? ⟨g, 6, none⟩ = some (.string r.text)
theorem Hd.lt {W : World} {g : Nat} {r : Rc} (h : Hd W g r) : g < W.heap.size := World.block_lt_of_cell? W ⟨g, 0, none⟩ h.1
theorem Hd.same {W W' : World} {g : Nat} {r : Rc} (h : Hd W g r) (he : W'.heap[g]? = W.heap[g]?) : Hd W' g r := by
  have e : ∀ i, W'.cell? ⟨g, i, none⟩ = W.cell? ⟨g, i, none⟩ := fun i => cell_same he
  unfold Hd at *
  simp only [e]
  exact h
theorem Hd.to {W W' : World} {g : Nat} {r : Rc} (h : Hd W g r) (hb : Below W.heap.size W W') : Hd W' g r := h.same (hb.block g h.lt)
theorem RowM.hd {w : World} {base g cap : Nat} {x : Rc} {m : List Rc} (h : RowM w base g cap (x :: m)) : Hd w g x := by
  have := h.cells (k := 0) (by simp)
  unfold Hd
  simpa using this
set_option linter.unusedSimpArgs false in
set_option maxRecDepth 100000 in
set_option maxHeartbeats 4000000 in
theorem c_pFoldC1 (g h n c m d : Nat) (x y : Rc) (hn : 0 < n) (hm : 0 < m) (w : World) (hx : Hd w g x) (hy : Hd w h y) :
    Calls Tryz.prog 45 #[.slice (some ⟨g, 0, none⟩) n c, .slice (some ⟨h, 0, none⟩) m d] w fun e w' => e = .returned (.int .i64 (bfZ x y)) ∧ GW w w' := by
  have h2 := fun q : World => c_pbefore x y q
  have HX : Hid (∀ W', Below w.heap.size w W' → Hd W' g x ∧ Hd W' h y) := hide (fun W' hb => ⟨hx.to hb, hy.to hb⟩)
  have hgl := hx.lt
  have hhl := hy.lt
  have hnz : decide ((0 : Int) < (n : Int)) = true := decide_eq_true (by omega)
  have hmz : decide ((0 : Int) < (m : Int)) = true := decide_eq_true (by omega)
  have hni : (0 : Int) < (n : Int) := by omega
  have hmi : (0 : Int) < (m : Int) := by omega
  clear hx hy
  unfold Hd at HX
  unfold rcV at h2
  generalize bfZ x y = Z at *
  obtain ⟨p, n1, t, o, wh, k, tx⟩ := x
  obtain ⟨p2, n2, t2, o2, wh2, k2, tx2⟩ := y
  dsimp only at HX h2
  go_enter Tryz.func45, Tryz.ntmps45
  go_wp2_with fail
  refine wp_region_held_drew (S := fun W' => (W'.cell? ⟨g, 0, none⟩ = some (.int .i64 p) ∧ W'.cell? ⟨g, 1, none⟩ = some (.int .i64 n1) ∧ W'.cell? ⟨g, 2, none⟩ = some (.int .i64 t) ∧ W'.cell? ⟨g, 3, none⟩ = some (.int .i64 o) ∧ W'.cell? ⟨g, 4, none⟩ = some (.int .i64 wh) ∧ W'.cell? ⟨g, 5, none⟩ = some (.int .i64 k) ∧ W'.cell? ⟨g, 6, none⟩ = some (.string tx)) ∧ (W'.cell? ⟨h, 0, none⟩ = some (.int .i64 p2) ∧ W'.cell? ⟨h, 1, none⟩ = some (.int .i64 n2) ∧ W'.cell? ⟨h, 2, none⟩ = some (.int .i64 t2) ∧ W'.cell? ⟨h, 3, none⟩ = some (.int .i64 o2) ∧ W'.cell? ⟨h, 4, none⟩ = some (.int .i64 wh2) ∧ W'.cell? ⟨h, 5, none⟩ = some (.int .i64 k2) ∧ W'.cell? ⟨h, 6, none⟩ = some (.string tx2))) (by kernel_rfl) (HX.out _ (bdrew (Below.refl _ _))) (fun hHeld => ?_)
  refine wpAnyH_take (i := 0) (v := ?_) rfl (by kernel_rfl) (by kernel_rfl) (by kernel_rfl) (fun _ _ _ h => h) (Or.inl ⟨by rfl, ?hy1⟩) (by assumption) ?rs1
  case hy1 => (intro w hSw; (try dsimp only at hSw); go_simp; try (with_reducible rfl))
  (try simp only [Act.put, List.setIfInBounds_toArray, List.set_cons_zero, List.set_cons_succ, List.getElem_toArray, List.getElem_cons_zero, List.getElem_cons_succ])
  refine wpAnyH_take (i := 1) (v := ?_) rfl (by kernel_rfl) (by kernel_rfl) (by kernel_rfl) (fun _ _ _ h => h) (Or.inl ⟨by rfl, ?hy2⟩) (by assumption) ?rs2
  case hy2 => (intro w hSw; (try dsimp only at hSw); go_simp; try (with_reducible rfl))
  (try simp only [Act.put, List.setIfInBounds_toArray, List.set_cons_zero, List.set_cons_succ, List.getElem_toArray, List.getElem_cons_zero, List.getElem_cons_succ])
  refine wpAnyH_take (i := 2) (v := ?_) rfl (by kernel_rfl) (by kernel_rfl) (by kernel_rfl) (fun _ _ _ h => h) (Or.inl ⟨by rfl, ?hy3⟩) (by assumption) ?rs3
  case hy3 => (intro w hSw; (try dsimp only at hSw); go_simp; try (with_reducible rfl))
  (try simp only [Act.put, List.setIfInBounds_toArray, List.set_cons_zero, List.set_cons_succ, List.getElem_toArray, List.getElem_cons_zero, List.getElem_cons_succ])
  refine wpAnyH_take (i := 3) (v := ?_) rfl (by kernel_rfl) (by kernel_rfl) (by kernel_rfl) (fun _ _ _ h => h) (Or.inl ⟨by rfl, ?hy4⟩) (by assumption) ?rs4
  case hy4 => (intro w hSw; (try dsimp only at hSw); go_simp; try (with_reducible rfl))
  (try simp only [Act.put, List.setIfInBounds_toArray, List.set_cons_zero, List.set_cons_succ, List.getElem_toArray, List.getElem_cons_zero, List.getElem_cons_succ])
  refine wpAnyH_take (i := 4) (v := ?_) rfl (by kernel_rfl) (by kernel_rfl) (by kernel_rfl) (fun _ _ _ h => h) (Or.inl ⟨by rfl, ?hy5⟩) (by assumption) ?rs5
  case hy5 => (intro w hSw; (try dsimp only at hSw); go_simp; try (with_reducible rfl))
  (try simp only [Act.put, List.setIfInBounds_toArray, List.set_cons_zero, List.set_cons_succ, List.getElem_toArray, List.getElem_cons_zero, List.getElem_cons_succ])
  refine wpAnyH_take (i := 5) (v := ?_) rfl (by kernel_rfl) (by kernel_rfl) (by kernel_rfl) (fun _ _ _ h => h) (Or.inl ⟨by rfl, ?hy6⟩) (by assumption) ?rs6
  case hy6 => (intro w hSw; (try dsimp only at hSw); go_simp; try (with_reducible rfl))
  (try simp only [Act.put, List.setIfInBounds_toArray, List.set_cons_zero, List.set_cons_succ, List.getElem_toArray, List.getElem_cons_zero, List.getElem_cons_succ])
  refine wpAnyH_ready (rs := [6]) (by kernel_rfl) (by simp) ?_
  refine AllReadyH.cons rfl (fun K hK => ?_) ?_
  · go_simp
    refine (h2 _).mono ?_
    rintro e w4 ⟨rfl, hg4⟩
    have HG4 := hide (GW.trans (GW.drew (GW.refl w)) hg4)
    clear hg4
    refine hK.out _ _ (by exact (HX.out _ HG4.out.below)) (fun hHeld => ?_)
    clear hK K
    (try simp only [Act.put, List.setIfInBounds_toArray, List.set_cons_zero, List.set_cons_succ, List.getElem_toArray, List.getElem_cons_zero, List.getElem_cons_succ])
    refine wpAnyH_take (i := 7) (v := ?_) rfl (by kernel_rfl) (by kernel_rfl) (by kernel_rfl) (fun _ _ _ h => h) (Or.inl ⟨by rfl, ?hy7⟩) (by assumption) ?rs7
    case hy7 => (intro w hSw; (try dsimp only at hSw); go_simp; try (with_reducible rfl))
    (try simp only [Act.put, List.setIfInBounds_toArray, List.set_cons_zero, List.set_cons_succ, List.getElem_toArray, List.getElem_cons_zero, List.getElem_cons_succ])
    refine wpAnyH_done (by kernel_rfl) ?_ _
    go_wp2_with fail
    go_ret
    exact ⟨rfl, HG4.out⟩
  · exact AllReadyH.nil
end Go.Proofs.YtcfbgelhggapjaaGreatDoor
/- Plain words on replicas: the families, in the order of their roots. No program here. -/
namespace Go.Proofs.YtcfbgelhggapjaaGreatDoor
def hdR (m : List Rc) : Rc := m.headD ⟨0, 0, 0, 0, 0, 0, ⟨#[]⟩⟩
theorem nd_of_map {l : List Rc} (h : (l.map keyR).Nodup) : l.Nodup := (List.pairwise_map.1 h).imp fun hab e => hab (by rw [e])
theorem fam_ne {l : List Rc} (h : VL l) {k : I2} (hk : famL l k ≠ []) : ∃ r t, r ∈ l ∧ rootB r = true ∧ keyR r = k ∧ famL l k = r :: t := by
  obtain ⟨x, hx⟩ := List.exists_mem_of_ne_nil _ hk
  obtain ⟨hxl, hxk⟩ := mem_fam.1 hx
  obtain ⟨t, ht⟩ := fam_head h (root_mem h hxl) (root_root h hxl)
  rw [hxk] at ht
  exact ⟨_, t, root_mem h hxl, root_root h hxl, hxk, ht⟩
theorem fams_eq {l : List Rc} (h : VL l) {ks : List I2} {F : List (List Rc)} (hn : ks.Nodup) (hk : ∀ k, k ∈ ks ↔ famL l k ≠ []) (hp : F.Perm (ks.map (famL l)))
    (hs : F.Pairwise (fun a b => bfB (hdR b) (hdR a) = false)) : F = ((ordL l).filter rootB).map (fun r => famL l (keyR r)) := by
  have hin : ∀ m ∈ F, ∃ k ∈ ks, famL l k = m := fun m hm => List.mem_map.1 (hp.mem_iff.1 hm)
  have hkey : ∀ k ∈ ks, keyR (hdR (famL l k)) = k ∧ hdR (famL l k) ∈ l ∧ rootB (hdR (famL l k)) = true := fun k hk' => by
    obtain ⟨r, t, h1, h2, h3, h4⟩ := fam_ne h ((hk k).1 hk')
    rw [h4]
    exact ⟨h3, h1, h2⟩
  have hp1 : (F.map hdR).Perm (ks.map (fun k => hdR (famL l k))) := by
    have := hp.map hdR
    rwa [List.map_map] at this
  have hndk : ((ks.map (fun k => hdR (famL l k))).map keyR).Nodup := by
    rw [List.map_map]
    have : ks.map (keyR ∘ fun k => hdR (famL l k)) = ks := by
      conv => rhs; rw [← List.map_id ks]
      exact List.map_congr_left fun k hk' => (hkey k hk').1
    rw [this]
    exact hn
  have hnd1 : (ks.map (fun k => hdR (famL l k))).Nodup := nd_of_map hndk
  have hnf : ((l.filter rootB).map keyR).Nodup := nd_filter rootB h.nd
  have hp2 : (ks.map (fun k => hdR (famL l k))).Perm (l.filter rootB) := by
    rw [List.perm_ext_iff_of_nodup hnd1 (nd_of_map hnf)]
    intro r
    rw [List.mem_map, List.mem_filter]
    constructor
    · rintro ⟨k, hk', rfl⟩
      exact ⟨(hkey k hk').2.1, (hkey k hk').2.2⟩
    · rintro ⟨h1, h2⟩
      obtain ⟨t, ht⟩ := fam_head h h1 h2
      exact ⟨keyR r, (hk _).2 (by rw [ht]; exact List.cons_ne_nil _ _), by rw [ht]; rfl⟩
  have hs1 : (F.map hdR).Pairwise (fun a b => bfB b a = false) := List.pairwise_map.2 hs
  have he := ord_of_perm hnf (hp1.trans hp2) hs1
  rw [ord_filter rootB h.nd] at he
  rw [← he, List.map_map]
  conv => lhs; rw [← List.map_id F]
  refine List.map_congr_left fun m hm => ?_
  obtain ⟨k, hk', rfl⟩ := hin m hm
  show famL l k = famL l (keyR (hdR (famL l k)))
  rw [(hkey k hk').1]
end Go.Proofs.YtcfbgelhggapjaaGreatDoor
/- Replica: slices.SortFunc at families. -/
namespace Go.Proofs.YtcfbgelhggapjaaGreatDoor
open Go.RowKit Go.Shelf
/-- a family: its block, its capacity, its records -/
abbrev Fm := Nat × Nat × List Rc
def encF (x : Fm) : Value := .slice (some ⟨x.1, 0, none⟩) x.2.2.length x.2.1
def FmOk (w : World) (blk : Nat) (x : Fm) : Prop := x.1 ≠ blk ∧ Hd w x.1 (hdR x.2.2) ∧ 0 < x.2.2.length
theorem lift_fm {P : Fm → Prop} {F : List Fm} (h : ∀ x ∈ F, P x) : ∃ D : List {x // P x}, D.map (·.1) = F := ⟨F.pmap Subtype.mk h, by simp [List.map_pmap]⟩
def cfF {P : Fm → Prop} (a b : {x // P x}) : Int := bfZ (hdR a.1.2.2) (hdR b.1.2.2)
theorem swoF {P : Fm → Prop} : Go.Sort.SWO (ltOf (cfF (P := P))) where
  irrefl _ := swoB.irrefl _
  trans _ _ _ h1 h2 := swoB.trans _ _ _ h1 h2
  ntrans _ _ _ h1 h2 := swoB.ntrans _ _ _ h1 h2
theorem heap_sortw {α : Type} [Inhabited α] (enc : α → Value) (w : World) (g n : Nat) (d : Array α) (os : Array Obj) (k : Nat) (hk : k < w.heap.size) :
    (sortWorld enc w g 0 n d os).heap[k]? = (w.heap.modify g (Go.Sort.onCells (Go.Sort.putCells enc 0 d)))[k]? := by
  unfold sortWorld Go.Sort.putRow
  rw [Go.Sort.heap_grow_old _ _ (by simpa [Go.Sort.mapBlock] using hk)]
  rfl
set_option maxRecDepth 100000 in
theorem c_sortFams (w : World) (B blk cap : Nat) (D : List {x // FmOk w blk x}) (hne : D ≠ []) (hl : D.length ≤ 1000000)
    (h : w.ownsRow B 23 1 (.slice (some ⟨blk, 0, none⟩) D.length cap) D.length (D.map (fun x => encF x.1))) :
    Calls Tryz.prog 44 #[.slice (some ⟨blk, 0, none⟩) D.length cap, .func (.func 45) #[] #[]] w fun e w' => e = .returned (.tuple #[]) ∧ ∃ F : List Fm, F.Perm (D.map (·.1)) ∧ F.Pairwise (fun a b => bfB (hdR b.2.2) (hdR a.2.2) = false) ∧
      w'.ownsRow B 23 1 (.slice (some ⟨blk, 0, none⟩) D.length cap) D.length (F.map encF) ∧ Below B w w' ∧ ∀ j, j < w.heap.size → j ≠ blk → w'.heap[j]? = w.heap[j]? := by
  obtain ⟨hlen, hn | ⟨g', cap', cur, hv, hbase, hb, hnc, hc, hsz, htk⟩⟩ := h
  · exact absurd hn.1 (by simp)
  simp only [Value.slice.injEq, Option.some.injEq, Addr.mk.injEq, and_true, true_and] at hv
  obtain ⟨rfl, rfl⟩ := hv
  have hblk : blk < w.heap.size := (Array.getElem?_eq_some_iff.1 hb).1
  haveI : Inhabited {x // FmOk w blk x} := ⟨D.head hne⟩
  have hH : Go.Sort.Holds (fun x : {x // FmOk w blk x} => encF x.1) w blk 0 D.toArray := by
    intro j hj
    simp only [List.size_toArray] at hj
    have hget : cur.toList[j]? = (D.map (fun x => encF x.1))[j]? := by
      rw [← htk, List.getElem?_take, if_pos (by omega)]
    refine ⟨?_, ?_⟩
    · rw [Nat.zero_add, cell_of_row w blk j _ 23 (0, 0) hb, ← Array.getElem?_toList, hget, List.getElem?_map, List.getElem?_eq_getElem hj, getElem!_pos _ j (by simpa using hj)]
      simp
    · rw [Nat.zero_add]; exact frozen_of_row w blk j _ 23 hb
  have hkeep : ∀ (n : Nat) (d : Array {x // FmOk w blk x}) (os : Array Obj) (j : Nat), j < w.heap.size → j ≠ blk → (sortWorld (fun x : {x // FmOk w blk x} => encF x.1) w blk 0 n d os).heap[j]? = w.heap[j]? := fun n d os j hj hjb => by
    rw [heap_sortw _ _ _ _ _ _ _ hj, Array.getElem?_modify, if_neg (Ne.symm hjb)]
  have hcon := Any.slices_SortFunc ({ Tryz.sortFm with a24 := Tryz.isAgg23, z24 := Tryz.sizeOf23 } : Go.Proofs.SlLaysF.n6 _ _) (fun x : {x // FmOk w blk x} => encF x.1) (fun _ => rfl) cfF swoF 45 #[] blk 0 cap D.toArray w
    (enters_of Tryz.func45 (by kernel_rfl) rfl) (fun m os dk _ x y => by
      have hx := x.2.2.1.same (hkeep m dk os _ x.2.2.1.lt x.2.1)
      have hy := y.2.2.1.same (hkeep m dk os _ y.2.2.1.lt y.2.1)
      exact c_pFoldC1 x.1.1 y.1.1 _ _ _ _ _ _ x.2.2.2 y.2.2.2 _ hx hy) hH hblk (by simp; omega)
  simp only [List.size_toArray] at hcon
  refine hcon.mono ?_
  rintro e w' ⟨rfl, d', n, os, hp, hs, rfl⟩
  have hds : d'.size = D.length := by have := hp.1; simpa using this
  have hpm : d'.toList.Perm D := by
    have h3 := hp.2.2
    have e1 : d'.extract 0 D.length = d' := by rw [← hds]; simp
    have e2 : D.toArray.extract 0 D.length = D.toArray := by simp
    rw [e1, e2] at h3
    exact h3
  refine ⟨rfl, d'.toList.map (·.1), hpm.map _, ?_, ⟨by simp [hds], .inr ⟨blk, cap, Go.Sort.putCells (fun x : {x // FmOk w blk x} => encF x.1) 0 d' cur, rfl, hbase, ?_, hnc, hc, ?_, ?_⟩⟩, ⟨rfl, rfl, rfl, ?_, fun k hk => ?_⟩, hkeep n d' os⟩
  · rw [List.pairwise_map, List.pairwise_iff_getElem]
    intro i j hi hj hij
    simp only [Array.length_toList] at hi hj
    have := hs i j (Nat.zero_le _) hij (by omega)
    rw [getElem!_pos d' j hj, getElem!_pos d' i hi] at this
    unfold ltOf cfF at this
    simp only [Array.getElem_toList]
    rw [decide_eq_false_iff_not, bfZ_neg] at this
    simpa using this
  · rw [heap_sortw _ _ _ _ _ _ _ hblk, Array.getElem?_modify, if_pos rfl, hb]; rfl
  · simp [Go.Sort.putCells, hsz]
  · apply List.ext_getElem?
    intro j
    rw [List.getElem?_take]
    by_cases hj : j < D.length * 1
    · rw [if_pos hj]
      have hjc : j < cur.size := by rw [hsz]; omega
      have hjd : j < d'.size := by omega
      simp only [Go.Sort.putCells, Array.getElem?_toList, Array.getElem?_mapIdx, Array.getElem?_eq_getElem hjc, Option.map_some, Nat.zero_le, true_and, Nat.zero_add, Nat.sub_zero]
      rw [if_pos hjd, getElem!_pos d' j hjd]
      simp [hjd]
    · rw [if_neg hj, List.getElem?_eq_none (by simp [hds]; omega)]
  · unfold sortWorld Go.Sort.putRow
    simp [Go.Sort.mapBlock]
  · exact hkeep n d' os k (by omega) (by omega)
end Go.Proofs.YtcfbgelhggapjaaGreatDoor
/- Replica: the package's Fold. -/
namespace Go.Proofs.YtcfbgelhggapjaaGreatDoor
open Go.RowKit Go.Shelf
theorem Tryz.infoRecs : (Tryz.prog.info? 23).map (fun i => (i.zero, i.size, i.bytes)) = some (some (.slice none 0 0), 1, 24) := by kernel_rfl
theorem lookup_mem : ∀ {L : List (I2 × Value)}, (L.map (·.1)).Nodup → ∀ p ∈ L, L.lookup p.1 = some p.2
  | [], _, _, h => by cases h
  | (k, v) :: L, hn, p, h => by
    simp only [List.map_cons, List.nodup_cons] at hn
    rcases List.mem_cons.1 h with rfl | h
    · simp [List.lookup]
    · have hne : p.1 ≠ k := fun e => hn.1 (by rw [← e]; exact List.mem_map_of_mem h)
      rw [List.lookup, beq_eq_false_iff_ne.2 hne]
      exact lookup_mem hn.2 p h
theorem own_apartK {wr : World} {b n base : Nat} {ls F : List (I2 × Value)} {r : Nat} {v : Value} {xs : List Value} {t : TypeId} {sz : Nat} (h : wr.ownsRow base t sz v n xs) (hr : IRg wr r b ls F) : ∀ k, v.ownBlock = some k → base ≤ k ∧ k ≠ r ∧ k ≠ b := by
  intro k hk
  rcases h.2 with ⟨rfl, _⟩ | ⟨g, cap, cur, rfl, hb, hg, _⟩
  · cases hk
  · simp only [Value.ownBlock, Option.some.injEq] at hk
    subst hk
    obtain ⟨es, clock, seen, c0, hr, _, hm, _⟩ := hr
    exact ⟨hb, (fun e => by subst e; rw [hg] at hr; cases hr), (fun e => by subst e; rw [hg] at hm; cases hm)⟩
theorem IRg.grownK {w w' : World} {r b : Nat} {L F : List (I2 × Value)} {row : Option Nat} (h : IRg w r b L F) (hg : w.grownBy w' row) (hr : ∀ k, row = some k → k ≠ r ∧ k ≠ b) : IRg w' r b L F :=
  h.same (hg.block r h.lt.1 (fun e => (hr r e.symm).1 rfl)) (hg.block b h.lt.2 (fun e => (hr b e.symm).2 rfl))
/-- the first loop: P has been put into the list, F is to come -/
def FoInv (w2 : World) (bf : Nat) (L : List (I2 × Value)) (N : Nat) (v : Value) (wr : World) : Prop :=
  ∃ P F, N = F.length ∧ IRg wr w2.heap.size bf L F ∧ (P ++ F).Perm L ∧ wr.ownsRow (w2.heap.size + 1) 23 1 v P.length (P.map (·.2)) ∧ Below w2.heap.size w2 wr ∧ w2.heap.size < wr.heap.size
theorem len_sub {α : Type} [DecidableEq α] : ∀ {a b : List α}, a.Nodup → (∀ x ∈ a, x ∈ b) → a.length ≤ b.length
  | [], _, _, _ => Nat.zero_le _
  | x :: a, b, hn, h => by
    rw [List.nodup_cons] at hn
    have hx := h x (.head _)
    have := len_sub (b := b.erase x) hn.2 (fun y hy => (List.mem_erase_of_ne (fun e => hn.1 (by rw [← e]; exact hy))).2 (h y (.tail _ hy)))
    rw [List.length_erase_of_mem hx] at this
    have := List.length_pos_of_mem hx
    simp only [List.length_cons]
    omega
theorem FM.len {w : World} {base b : Nat} {l : List Rc} {L : List (I2 × Value)} (h : FM w base b (famL l) L) (hV : VL l) : L.length ≤ l.length := by
  have := len_sub (a := L.map (·.1)) (b := l.map keyR) h.nd (fun k hk => by
    obtain ⟨q, hq, rfl⟩ := List.mem_map.1 hk
    have h1 := (h.row q.1 q.2 (lookup_mem h.nd q hq)).1
    obtain ⟨r, t, h2, _, h3, _⟩ := fam_ne hV (k := q.1) (fun e => by rw [e] at h1; exact absurd h1 (by simp))
    exact List.mem_map.2 ⟨r, h2, h3⟩)
  simpa using this
/-- what a family holds -/
def lastF (m : List Rc) : Option Rc := match m.getLast? with | some x => if x.text.size = 0 then none else some x | none => none
theorem fold_last (l : List Rc) : foldL l = (((ordL l).filter rootB).map (fun r => famL l (keyR r))).filterMap lastF := by
  unfold foldL
  rw [List.filterMap_map]
  rfl
theorem fms_of {l : List Rc} {w2 : World} {base : Nat} : ∀ {P : List (I2 × Value)}, (∀ q ∈ P, 0 < (famL l q.1).length ∧ ∃ g cap, q.2 = .slice (some ⟨g, 0, none⟩) (famL l q.1).length cap ∧ RowM w2 base g cap (famL l q.1)) →
    ∃ Fs : List Fm, P.map (·.2) = Fs.map encF ∧ Fs.map (·.2.2) = P.map (fun q => famL l q.1) ∧ ∀ x ∈ Fs, 0 < x.2.2.length ∧ RowM w2 base x.1 x.2.1 x.2.2
  | [], _ => ⟨[], rfl, rfl, fun _ h => by cases h⟩
  | q :: P, h => by
    obtain ⟨Fs, h1, h2, h3⟩ := fms_of (P := P) (fun q hq => h q (.tail _ hq))
    obtain ⟨h4, g, cap, h5, h6⟩ := h q (.head _)
    refine ⟨(g, cap, famL l q.1) :: Fs, ?_, ?_, fun x hx => ?_⟩
    · rw [List.map_cons, List.map_cons, h1, h5]; rfl
    · rw [List.map_cons, List.map_cons, h2]
    · rcases List.mem_cons.1 hx with rfl | hx
      · exact ⟨h4, h6⟩
      · exact h3 x hx
theorem c_sortFam2 {l : List Rc} (hV : VL l) {w2 wr : World} {base bf : Nat} {L P : List (I2 × Value)} {v : Value} (hfm : FM w2 base bf (famL l) L) (hp : P.Perm L) (hl : P.length ≤ 1000000)
    (hown : wr.ownsRow (w2.heap.size + 1) 23 1 v P.length (P.map (·.2))) (hb : Below w2.heap.size w2 wr) :
    Calls Tryz.prog 44 #[v, .func (.func 45) #[] #[]] wr fun e w' => e = .returned (.tuple #[]) ∧ ∃ Fs : List Fm, Fs.length = P.length ∧ Fs.map (·.2.2) = ((ordL l).filter rootB).map (fun r => famL l (keyR r)) ∧ (∀ x ∈ Fs, 0 < x.2.2.length ∧ RowM w' base x.1 x.2.1 x.2.2) ∧
      w'.ownsRow (w2.heap.size + 1) 23 1 v P.length (Fs.map encF) ∧ Below (w2.heap.size + 1) wr w' := by
  have hrow : ∀ q ∈ P, 0 < (famL l q.1).length ∧ ∃ g cap, q.2 = .slice (some ⟨g, 0, none⟩) (famL l q.1).length cap ∧ RowM w2 base g cap (famL l q.1) := fun q hq => hfm.row q.1 q.2 (lookup_mem hfm.nd q (hp.mem_iff.1 hq))
  obtain ⟨Fs, h1, h2, h3⟩ := fms_of hrow
  have hks : ∀ k, k ∈ L.map (·.1) ↔ famL l k ≠ [] := fun k => by
    constructor
    · intro hk e
      obtain ⟨q, hq, rfl⟩ := List.mem_map.1 hk
      have := (hfm.row q.1 q.2 (lookup_mem hfm.nd q hq)).1
      rw [e] at this
      exact absurd this (by simp)
    · intro hk
      cases hl : L.lookup k with
      | none => exact absurd (hfm.nil k hl) hk
      | some v =>
        refine Classical.byContradiction fun h => ?_
        rw [(lookup_none_iff k L).2 h] at hl
        cases hl
  have hfin : ∀ F' : List Fm, F'.Perm Fs → F'.Pairwise (fun a b => bfB (hdR b.2.2) (hdR a.2.2) = false) → F'.map (·.2.2) = ((ordL l).filter rootB).map (fun r => famL l (keyR r)) := fun F' hq hs => by
    refine fams_eq hV hfm.nd hks ?_ (List.pairwise_map.2 hs)
    refine (hq.map _).trans ?_
    rw [h2, List.map_map]
    exact hp.map (fun q => famL l q.1)
  have hsz := hb.size
  rcases Nat.eq_zero_or_pos P.length with h0 | h0
  · obtain rfl := List.eq_nil_of_length_eq_zero h0
    obtain ⟨A', cv, rfl, _, _, _⟩ := SlR.of_own hown
    have hFs : Fs = [] := by simpa using h1.symm
    subst hFs
    refine (AnyF.slices_SortFunc_none Tryz.sortFm A' cv _ wr).mono ?_
    rintro e w' ⟨rfl, rfl⟩
    exact ⟨rfl, [], rfl, hfin [] (.refl _) .nil, (fun x hx => by cases hx), hown, Below.refl _ _⟩
  · obtain ⟨g, cap, cur, rfl, hg1, hg2, hg3, hg4, hg5, hg6⟩ : ∃ g cap cur, v = .slice (some ⟨g, 0, none⟩) P.length cap ∧ w2.heap.size + 1 ≤ g ∧ wr.heap[g]? = some (.cells cur 23 (0, 0)) ∧ P.length ≤ cap ∧ cap ≤ maxLen ∧ cur.size = cap * 1 ∧ cur.toList.take (P.length * 1) = P.map (·.2) := by
      rcases hown.2 with ⟨_, h⟩ | h
      · omega
      · exact h
    obtain ⟨D, hD⟩ := lift_fm (P := FmOk wr g) (F := Fs) (fun x hx => by
      obtain ⟨h4, h5⟩ := h3 x hx
      have hlt := h5.lt
      refine ⟨by omega, ?_, h4⟩
      obtain ⟨x1, x2, m⟩ := x
      cases m with
      | nil => exact absurd h4 (by simp)
      | cons y t => exact (RowM.hd h5).to hb)
    have hDl : D.length = P.length := by
      have e1 := congrArg List.length hD
      have e2 := congrArg List.length h1
      simp only [List.length_map] at e1 e2
      omega
    have hown' : wr.ownsRow (w2.heap.size + 1) 23 1 (.slice (some ⟨g, 0, none⟩) D.length cap) D.length (D.map (fun x => encF x.1)) := by
      rw [hDl]
      have : D.map (fun x => encF x.1) = P.map (·.2) := by rw [h1, ← hD, List.map_map]; rfl
      rw [this]
      exact hown
    have hc := c_sortFams wr (w2.heap.size + 1) g cap D (fun e => by rw [e] at hDl; simp at hDl; omega) (by omega) hown'
    rw [hDl] at hc
    refine hc.mono ?_
    rintro e w' ⟨rfl, F, hF1, hF2, hF3, hF4, hF5⟩
    rw [hD] at hF1
    have hFl : F.length = P.length := by rw [hF1.length_eq, ← hDl, ← hD, List.length_map]
    refine ⟨rfl, F, hFl, hfin F hF1 hF2, fun x hx => ?_, hF3, hF4⟩
    obtain ⟨h4, h5⟩ := h3 x (hF1.mem_iff.1 hx)
    have hlt := h5.lt
    exact ⟨h4, (h5.to hb).same (hF5 _ (by omega) (by omega))⟩
theorem isE (b : ByteArray) : b.toList.isEmpty = decide (b.size = 0) := by
  rw [ByteArray.toList_eq]
  obtain ⟨⟨l⟩⟩ := b
  cases l <;> simp [ByteArray.size]
/-- what the first k families hold -/
def outP (Fs : List Fm) (k : Nat) : List Rc := ((Fs.take k).map (·.2.2)).filterMap lastF
theorem outP_succ (Fs : List Fm) (k : Nat) (h : k < Fs.length) : outP Fs (k + 1) = match lastF Fs[k].2.2 with | some x => outP Fs k ++ [x] | none => outP Fs k := by
  unfold outP
  rw [List.take_succ_eq_append_getElem h, List.map_append, List.filterMap_append]
  cases hl : lastF Fs[k].2.2 with
  | none => simp [hl]
  | some x => simp [hl]
theorem outP_len (Fs : List Fm) (k : Nat) : (outP Fs k).length ≤ k := by
  unfold outP
  refine Nat.le_trans (List.length_filterMap_le _ _) ?_
  rw [List.length_map, List.length_take]
  omega
set_option linter.unusedSimpArgs false in
set_option maxRecDepth 100000 in
set_option maxHeartbeats 8000000 in
theorem c_pFold (p : Int) (A : Option Addr) (N c : Nat) (l : List Rc) (w : World) (hR : RL w) (hN : N ≤ 9223372036854775807) (hr : SlR w w.heap.size 7 A N (l.flatMap cR)) :
    Calls Tryz.prog 13 #[rpV p A N c] w (BehPost (if vrB p l then some (foldL l) else none) w) := by
  have HL := hide hr.lenR
  have hb0 := balloc (Below.refl w.heap.size w) (.cells #[.int .i64 p, .slice A N c] 25)
  have gR := Blk.new w 25 [.int .i64 p, .slice A N c]
  obtain ⟨w0, hw0⟩ : ∃ w0, w.alloc (.cells #[.int .i64 p, .slice A N c] 25) = w0 := ⟨_, rfl⟩
  rw [hw0] at hb0
  have gR : Blk w0 w.heap.size 25 [.int .i64 p, .slice A N c] := by rw [← hw0]; exact gR
  have hcv := c_pValid p A N c l w0 (hR.to' hb0) (hr.to' hb0) hN
  have HH : Hid (∀ W, Below w0.heap.size w0 W → Blk W w.heap.size 25 [.int .i64 p, .slice A N c] ∧ SlR W W.heap.size 7 A N (l.flatMap cR) ∧ RL W ∧ Below w.heap.size w W) := hide (fun W h => ⟨gR.below h gR.lt, hr.to' (bthen hb0 h), hR.to' (bthen hb0 h), bthen hb0 h⟩)
  obtain ⟨r0, r1⟩ := gR.two
  have HS0 : Hid (w.heap.size < w0.heap.size) := hide gR.lt
  have HW0 := hide hw0
  have hlt := gR.lt
  have HB0 := hide hb0
  clear hw0 gR hb0 hr hR
  unfold rpV
  unfold rpV at hcv
  cases hvr : vrB p l with
  | false =>
    rw [hvr] at hcv
    clear hvr
    go_enter Tryz.func13, Tryz.ntmps13
    go_wp2_with (go_at_call 16; rw [HW0.out]; refine hcv.mono ?_; clear hcv r0 r1; rintro e w1 ⟨rfl, hb1⟩)
    go_ret2
    exact ⟨(HH.out _ hb1).2.2.2, .inl ⟨by simp, rfl⟩⟩
  | true =>
    rw [hvr] at hcv
    obtain ⟨-, hl150, hV⟩ := vr_iff.1 hvr
    have HV := hide hV
    have HN : Hid (N ≤ 150) := hide (by have := HL.out; omega)
    have hfa := fun (w1 : World) (h : Below w0.heap.size w0 w1) => c_families p A N c l w1 (HH.out w1 h).2.2.1 HV.out HN.out (HH.out w1 h).2.1
    unfold rpV at hfa
    have HFA := hide hfa
    clear hvr hV hfa
    obtain ⟨i0, hi, hz0, hz1, hz2⟩ := info_parts Tryz.infoRecs
    go_enter Tryz.func13, Tryz.ntmps13
    go_wp2_with (first | (go_at_call 16; rw [HW0.out]; refine hcv.mono ?_; clear hcv r0 r1; rintro e w1 ⟨rfl, hb1⟩; obtain ⟨gR1, -, -, -⟩ := HH.out _ hb1; obtain ⟨s0, s1⟩ := gR1.two; have hfa := HFA.out w1 hb1; have h1s := gR1.lt; have H1 := hide hb1; clear gR1 hb1) |
      (go_at_call 43; refine hfa.mono ?_; clear hfa s0 s1; rintro e w2 ⟨bf, base, L, rfl, hbf, hbs, hfm, hb2⟩; have him := hfm.im; have HFM := hide hfm; have HB2 := hide hb2; have HBF := hide (And.intro hbf hbs); clear hfm hb2 hbf hbs) |
      (at_range; refine wpList_range_im rfl _ 67 rfl 70 23 Tryz.underlying67 rfl him ?_; intro w3 hrg hg3 hs3))
    have HRow : Hid (∀ q ∈ L, 0 < (famL l q.1).length ∧ ∃ g cap, q.2 = .slice (some ⟨g, 0, none⟩) (famL l q.1).length cap ∧ RowM w2 base g cap (famL l q.1)) := hide (fun q hq => HFM.out.row q.1 q.2 (lookup_mem HFM.out.nd q hq))
    go_loopg [4] L.length (fun n v wr => FoInv w2 bf L n v wr)
    case atStart => exact ⟨[], L, rfl, hrg, .refl _, World.ownsRow_nil _ _ _ _, bgrown (Below.refl _ _) hg3 (fun k e => by cases e), by omega⟩
    case round =>
      obtain ⟨P, F, rfl, hrg', hperm, hown, hb, hsz⟩ := hrel
      have HP := hide (And.intro hperm (And.intro hown (And.intro hb (And.intro hsz hrg'))))
      clear hrg hg3 hs3 him hperm hown hb hsz
      go_wp2_with (refine wpList_next_im rfl _ rfl rfl hrg' ?_ ?_)
      · intro hF
        have hF' : F = [] := by simpa using hF
        subst hF'
        obtain ⟨hperm, hown, hb, hsz, -⟩ := HP.out
        rw [List.append_nil] at hperm
        have hPl : P.length ≤ 150 := by have := hperm.length_eq; have := HFM.out.len HV.out; have := HL.out; have := HN.out; omega
        have hsf := c_sortFam2 HV.out HFM.out hperm (by omega) hown hb
        obtain ⟨Av, cv, rfl, _, _, _⟩ := SlR.of_own hown
        have HBw := hide hb
        have HPl := hide hPl
        obtain ⟨n, hn⟩ : ∃ n, P.length = n := ⟨_, rfl⟩
        rw [hn] at hsf
        have HNl := hide hn
        clear hrg' hF hperm hown hb hsz hPl hi hz0 hz1 hz2
        rw [hn]
        clear hn
        go_wp2_with (go_at_call 44; refine hsf.mono ?_; clear hsf; rintro e w5 ⟨rfl, Fs, hF1, hF2, hF3, hF4, hF5⟩)
        have hsl := (own_row hF4).2.2
        have HF := hide (And.intro hF1 (And.intro hF2 (And.intro hF3 hF5)))
        have hn150 : n ≤ 150 := by have := HPl.out; have := HNl.out; omega
        have HOW := hide (World.ownsRow_nil w5 w5.heap.size 49 7)
        clear hF1 hF2 hF3 hF4 hF5
        go_loopw [7, 29] (fun v i wr => ∃ k : Nat, k ≤ n ∧ i = .int .i64 k ∧ wr.ownsRow w5.heap.size 49 7 v (outP Fs k).length ((outP Fs k).flatMap cR) ∧ Below w5.heap.size w5 wr) (fun _ i _ => n - (intOf i).toNat)
        case atStart => exact ⟨0, Nat.zero_le _, rfl, HOW.out, Below.refl _ _⟩
        case round =>
          obtain ⟨k, hk, rfl, hown, hb5⟩ := hrel
          by_cases hlt2 : k < n
          · have hkl : k < Fs.length := by rw [HF.out.1]; have := HNl.out; omega
            obtain ⟨b', off, rfl, hbb, hcell⟩ := hsl.2 (by omega)
            have hc0 := hcell k (encF Fs[k]) (by rw [List.getElem?_map, List.getElem?_eq_getElem hkl]; rfl)
            have hc1 := (hb5.cell (p := ⟨b', off + k, none⟩) hbb).trans hc0
            obtain ⟨hm0, hrow⟩ := HF.out.2.2.1 _ (List.getElem_mem hkl)
            have hos := outP_succ Fs k hkl
            generalize Fs[k] = x at *
            obtain ⟨g, cap, m⟩ := x
            obtain ⟨t, ht⟩ : ∃ t, m.length = t + 1 := ⟨m.length - 1, by dsimp only at hm0; omega⟩
            have hrw := hrow.to hb5
            have htl : t < m.length := by omega
            obtain ⟨x0, x1, x2, x3, x4, x5, x6⟩ := hrw.cells htl
            have hgl := hrw.lt
            have hwt : wrap64 ((t : Nat) : Int) = (t : Int) := Go.IntWalk.wrap64_in _ (by have h1 := hrow.2.1; have h2 := hrow.2.2.1; unfold maxLen at h2; dsimp only at h1 h2; omega)
            have hla : m.getLast? = some m[t] := by rw [List.getLast?_eq_getElem?, ht, Nat.add_sub_cancel, List.getElem?_eq_getElem htl]
            generalize m[t] = r at *
            unfold encF at hc1
            dsimp only at hc1
            rw [ht] at hc1
            have HOS := hide hos
            have HLA := hide hla
            have HOwn := hide hown
            have HB5 := hide hb5
            clear hcell hc0 hm0 hrow hos hla hrw htl hown hb5 ht
            have hji : (k : Int) < (n : Int) := by omega
            obtain ⟨rp, rn, rt, ro, rw', rk, rx⟩ := r
            dsimp only at x0 x1 x2 x3 x4 x5 x6
            have hE := isE rx
            obtain ⟨Av7, cv7, rfl, _, _, _⟩ := SlR.of_own HOwn.out
            have HO := hide (outP_len Fs k)
            generalize outP Fs k = mo at *
            obtain ⟨j0, hj, hj0, hj1, hj2⟩ := info_parts Tryz.infoRec
            have gA := (Blk.new (wr.alloc (.cells #[.int .i64 rp, .int .i64 rn, .int .i64 rt, .int .i64 ro, .int .i64 rw', .int .i64 rk, .string rx] 49)) 49 (cR ⟨rp, rn, rt, ro, rw', rk, rx⟩)).slr (k := 7) (n := 1) rfl
            rw [show (wr.alloc (.cells #[.int .i64 rp, .int .i64 rn, .int .i64 rt, .int .i64 ro, .int .i64 rw', .int .i64 rk, .string rx] 49)).heap.size = wr.heap.size + 1 from by simp] at gA
            have hmo : mo.length ≤ 150 := by have := HO.out; omega
            have hown7 := (HOwn.out.alloc (.cells #[.int .i64 rp, .int .i64 rn, .int .i64 rt, .int .i64 ro, .int .i64 rw', .int .i64 rk, .string rx] 49)).alloc (.cells #[.int .i64 rp, .int .i64 rn, .int .i64 rt, .int .i64 ro, .int .i64 rw', .int .i64 rk, .string rx] 49)
            have hwr5 := HB5.out.size
            by_cases hz : rx.size = 0
            · rw [decide_eq_true hz] at hE
              have HZ := hide hz
              clear hz gA hown7
              go_wp2_with fail
              have hos : outP Fs (k + 1) = mo := by
                have h := HOS.out
                dsimp only at h
                rw [show lastF m = none from by unfold lastF; rw [HLA.out]; simp [HZ.out]] at h
                exact h
              clear hwt hE
              refine ⟨⟨k + 1, hlt2, rfl, by rw [hos]; exact HOwn.out.alloc _, balloc HB5.out _⟩, ?_⟩
              show n - ((k : Int) + 1).toNat < n - ((k : Nat) : Int).toNat
              omega
            · rw [decide_eq_false hz] at hE
              have HZ := hide hz
              clear hz
              go_wp2_with (at_builtin; refine wpList_append_sl (size := 7) rfl _ _ 23 rfl w5.heap.size 49 j0 zV 64 Tryz.underlying23 hj hj0 hj1 hj2 rfl (by decide) (.slice Av7 mo.length cv7) mo.length (mo.flatMap cR) rfl hown7 1 1 (cR ⟨rp, rn, rt, ro, rw', rk, rx⟩) rfl gA (Below.refl _ _) (fun u hu => oneR [⟨rp, rn, rt, ro, rw', rk, rx⟩] u (by simpa using hu)) (by unfold maxLen; omega) (by omega) (by simp; omega) ?_; intro v8 w8 hown8 hgrow8 hor8; have HN8 := hide (And.intro hown8 hgrow8); clear hown8 hgrow8 hor8 hown7 gA)
              have hos : outP Fs (k + 1) = mo ++ [⟨rp, rn, rt, ro, rw', rk, rx⟩] := by
                have h := HOS.out
                dsimp only at h
                rw [show lastF m = some ⟨rp, rn, rt, ro, rw', rk, rx⟩ from by unfold lastF; rw [HLA.out]; simp [HZ.out]] at h
                exact h
              obtain ⟨hown8, hgrow8⟩ := HN8.out
              clear hwt hE
              refine ⟨⟨k + 1, hlt2, rfl, ?_, ?_⟩, ?_⟩
              · rw [hos, List.length_append, List.flatMap_append]
                simpa using hown8
              · exact bgrown (balloc (balloc HB5.out _) _) hgrow8 (own_ge HOwn.out)
              · show n - ((k : Int) + 1).toNat < n - ((k : Nat) : Int).toNat
                omega
          · obtain rfl : k = n := by omega
            have HO := hide (And.intro hown hb5)
            obtain ⟨Av7, cv7, rfl, h71, h72, _⟩ := SlR.of_own hown
            clear hown hb5
            go_wp2
            go_ret2
            have hFl : Fs.take k = Fs := by rw [← HF.out.1, List.take_length]
            have hfo : outP Fs k = foldL l := by unfold outP; rw [hFl, HF.out.2.1, fold_last]
            have h02 := (HH.out _ (bthen H1.out HB2.out)).2.2.2
            have h05 := bthen h02 (HBw.out.trans (HF.out.2.2.2.mono (Nat.le_succ _)))
            refine ⟨bthen h05 HO.out.2, .inr ⟨outP Fs k, Av7, cv7, by rw [hfo], rfl, h71, by unfold maxLen at h72; omega, (own_sln HO.out.1).mono h05.size⟩⟩
      · intro k1 k2 v F' w5 hqm hperm' hrg5 hg5 hs5 hent
        obtain ⟨hq0, g, cap, hq2, hq3⟩ := HRow.out _ hqm
        dsimp only at hq0 hq2 hq3
        subst hq2
        obtain ⟨hperm, hown, hb, hsz, hrg1⟩ := HP.out
        obtain ⟨Av, cv, rfl, _, _, _⟩ := SlR.of_own hown
        have hpl := hperm.length_eq
        rw [List.length_append] at hpl
        have hP6 : P.length ≤ 150 := by have := HFM.out.len HV.out; have := HL.out; have := HN.out; omega
        generalize hnm : (famL l (k1, k2)).length = nm at *
        have hown5 := own_same (W' := w5) hown (fun j hj hs => hg5.block j hs (fun e => by cases e; omega))
        have hb5 := bgrown hb hg5 (fun k e => by cases e; exact Nat.le_refl _)
        have HQ := hide (And.intro hperm (And.intro hperm' (And.intro hrg5 (And.intro hb5 hown5))))
        have hs5' : w2.heap.size + 1 ≤ w5.heap.size := by omega
        have gA := (Blk.new w5 23 [.slice (some ⟨g, 0, none⟩) nm cap]).slr (k := 1) (n := 1) rfl
        have hown6 := hown5.alloc (.cells #[.slice (some ⟨g, 0, none⟩) nm cap] 23)
        clear hperm hperm' hrg5 hb5 hrg1 hb hg5 hown hqm hs5 hown5 hq0 hq3 hpl hrg'
        go_wp2_with (at_builtin; refine wpList_append_sl (size := 1) rfl _ _ 66 rfl (w2.heap.size + 1) 23 i0 zS 24 Tryz.underlying66 hi hz0 hz1 hz2 rfl (by decide) (.slice Av P.length cv) P.length (P.map (·.2)) rfl hown6 1 1 [.slice (some ⟨g, 0, none⟩) nm cap] rfl gA (Below.refl _ _) (fun u hu => by simp at hu; subst hu; rfl) (by unfold maxLen; omega) (by omega) (by simp; omega) ?_; intro v6 w6 hown7 hgrow6 hor6)
        obtain ⟨hperm, hpf, hrg5, hb5, hown5⟩ := HQ.out
        go_roundg F'.length
        case measure => have := hpf.length_eq; simp at this; omega
        case rel =>
          refine ⟨P ++ [((k1, k2), .slice (some ⟨g, 0, none⟩) nm cap)], F', rfl, ?_, ?_, ?_, ?_, ?_⟩
          · exact (hrg5.alloc _).grownK hgrow6 (fun k e => ((own_apartK hown5 hrg5) k e).2)
          · rw [List.append_assoc]; exact (List.Perm.append_left P hpf.symm).trans hperm
          · rw [List.length_append, List.map_append]; exact hown7
          · exact bgrown (balloc hb5 _) hgrow6 (fun k e => Nat.le_of_succ_le ((own_apartK hown5 hrg5) k e).1)
          · have := hgrow6.size; simp at this; omega
end Go.Proofs.YtcfbgelhggapjaaGreatDoor
/- Replica: the reference's Root. -/
namespace Go.Proofs.YtcfbgelhggapjaaGreatDoor
open Go.RowKit Go.Shelf
set_option linter.unusedSimpArgs false in
set_option maxRecDepth 100000 in
set_option maxHeartbeats 4000000 in
theorem c_rRoot (A : Option Addr) (N c : Nat) (l : List Rc) (i : Nat) (w : World) (hV : VL l) (hn : N ≤ 9223372036854775807) (hi : i < l.length) (hr : SlR w w.heap.size 7 A N (l.flatMap cR)) :
    Calls Tryz.prog 60 #[.slice A N c, .int .i64 i] w fun e w' => (∃ (j : Nat) (hj : j < l.length), e = .returned (.int .i64 j) ∧ l[j] = rootR l l[i]) ∧ Below w.heap.size w w' := by
  have HL := hide hr.lenR
  have HV := hide hV
  obtain ⟨b, off, rfl, hbb⟩ := hr.some_of (by have := HL.out; omega)
  clear hV
  go_enter Tryz.func60, Tryz.ntmps60
  go_wp2
  go_loopw [1] (fun v wr => ∃ (k : Nat) (hk : k < l.length), v = .int .i64 k ∧ rootR l l[k] = rootR l l[i] ∧ Below w.heap.size w wr) (fun v _ => if h : (intOf v).toNat < l.length then rank l l[(intOf v).toNat] else 0)
  case atStart => exact ⟨i, hi, rfl, rfl, Below.refl _ _⟩
  case round =>
    obtain ⟨k, hk, rfl, hrt, hb⟩ := hrel
    have hr' := hr.to' hb
    have hkn : k < N := by have := HL.out; omega
    have hji : (k : Int) < (N : Int) := by omega
    have hjz : (0 : Int) ≤ (k : Int) := by omega
    obtain ⟨-, x0, x1, x2, x3, x4, x5, x6⟩ := hr.cellsR hb hk
    have HR := hide hrt
    have HB := hide hb
    have hmem := List.getElem_mem hk
    rcases fm_of (HV.out.fm _ hmem) with ⟨h1, h2⟩ | ⟨h1, h2⟩
    · have HE := hide (show l[k] = rootR l l[i] by rw [← hrt, root_self h2])
      have hof : ¬ (0 ≤ l[k].of) := by omega
      generalize l[k].of = oo at *
      clear hrt hb hr' h1 h2 hmem
      go_wp2
      go_ret
      exact ⟨⟨k, rfl, hk, HE.out⟩, HB.out⟩
    · obtain ⟨o, ho, h0, h3, h4⟩ := HV.out.tgt hmem h2
      rcases fdI_cases (tgt l[k]) l with ⟨g1, g2⟩ | ⟨j, hj, g0, g1, g2⟩
      · rw [h0] at g1; cases g1
      · have hoj : l[j] = o := by rw [h0] at g1; exact (Option.some.inj g1).symm
        have HE := hide (show rootR l l[j] = rootR l l[i] by rw [← hrt, root_step HV.out hmem h2 g1])
        have HRk := hide (show rank l l[j] < rank l l[k] by rw [hoj]; exact rank_lt ho h4)
        have hof : 0 ≤ l[k].of := by omega
        have hcF : ∀ x : BW wr, Calls Tryz.prog 38 #[.slice (some ⟨b, off, none⟩) N c, .int .i64 l[k].of, .int .i64 l[k].which] x.val fun e w' => e = .returned (.int .i64 j) ∧ x.val = w' := fun x => by
          have := c_rFind (some ⟨b, off, none⟩) N c l l[k].of l[k].which x.val hn (hr'.to' x.ok)
          rw [show ((l[k].of, l[k].which) : I2) = tgt l[k] from rfl, g2] at this
          exact this
        obtain ⟨z0, z1, z2, z3, z4, z5, z6⟩ := hr'.bwR hk
        clear z0 z1 z2 z5 z6 x0 x1 x2 x5 x6 g0 g1 g2 hoj ho h0 h3 h4 hrt hb hr' h1 h2 hmem
        generalize l[k].of = oo at *
        generalize l[k].which = ww at *
        go_wp2_with fail
        refine wp_region_bw wr (Below.refl _ _) (by kernel_rfl) (by kernel_rfl) ?_
        repeat (go_big_quiet_step ((go_at_call 38; exact bw_same (hcF _))))
        refine wpQuiet_nil ?_
        intro W2 hb2
        go_wp2_with fail
        refine ⟨⟨j, hj, rfl, HE.out, bthen HB.out hb2⟩, ?_⟩
        have e1 : (intOf (Value.int .i64 (j : Int))).toNat = j := by simp [intOf]
        have e2 : (intOf (Value.int .i64 (k : Int))).toNat = k := by simp [intOf]
        simp only [e1, e2, hj, hk, dif_pos]
        exact HRk.out
end Go.Proofs.YtcfbgelhggapjaaGreatDoor
