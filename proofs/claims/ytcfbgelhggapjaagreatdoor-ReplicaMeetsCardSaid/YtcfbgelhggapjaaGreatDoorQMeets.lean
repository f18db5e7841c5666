/- The plain law of ReplicaMeets. No program here. -/
import Derived.Test.YtcfbgelhggapjaaGreatDoorQ17
namespace Go.Proofs.YtcfbgelhggapjaaGreatDoor
theorem nd_new {G l : List Rc} {p : Int} (x : Rc) (hn : (G.map keyR).Nodup) (h : VL l) (ho : ∀ r ∈ G, r.pen = p → r ∈ l) : ((newx p l x :: G).map keyR).Nodup := by
  rw [List.map_cons, List.nodup_cons]
  refine ⟨fun hm => ?_, hn⟩
  obtain ⟨r, hr, e⟩ := List.mem_map.1 hm
  rw [newx_key] at e
  exact h.free p r (ho r hr (congrArg Prod.fst e)) e
/-- the number of the last record of a pen -/
def numF (p : Int) (l : List Rc) : Int := l.foldl (fun z r => if r.pen = p then r.num else z) 0
theorem numF_snoc (p : Int) (l : List Rc) (r : Rc) : numF p (l ++ [r]) = if r.pen = p then r.num else numF p l := by
  unfold numF; rw [List.foldl_append]; rfl
theorem fold_no (p : Int) : ∀ (u : List Rc) (z : Int), (∀ y ∈ u, y.pen ≠ p) → u.foldl (fun z r => if r.pen = p then r.num else z) z = z
  | [], z, _ => rfl
  | y :: u, z, h => by
    rw [List.foldl_cons, if_neg (h y (.head _))]
    exact fold_no p u z fun y hy => h y (.tail _ hy)
theorem numF_put {p : Int} {l : List Rc} (x : Rc) (h : VL l) (hv : VL (putL l (newx p l x))) : numF p (putL l (newx p l x)) = (cntP p l : Int) + 1 := by
  have hx : newx p l x ∈ putL l (newx p l x) := mem_putL.2 (.inl rfl)
  obtain ⟨t, u, e⟩ := List.append_of_mem hx
  have hs := hv.srt
  have hm : ∀ y ∈ u, y.pen ≠ p := fun y hy hp => by
    have hy' : y ∈ putL l (newx p l x) := by rw [e]; exact List.mem_append_right _ (.tail _ hy)
    have h1 : lsB (newx p l x) y = true := by
      rw [e, List.pairwise_append, List.pairwise_cons] at hs
      exact hs.2.1.1 y hy
    rw [ls_iff] at h1
    have h2 : (newx p l x).pen = p := rfl
    have h3 : (newx p l x).num = (cntP p l : Int) + 1 := rfl
    rcases mem_putL.1 hy' with g | g
    · rw [g] at h1; omega
    · have := (h.nums p y.num).1 ⟨y, g, hp, rfl⟩
      omega
  unfold numF
  rw [e, List.foldl_append, List.foldl_cons, if_pos (show (newx p l x).pen = p from rfl), fold_no p u _ hm]
  rfl
def tFirst : ByteArray := ⟨#[102, 105, 114, 115, 116]⟩
def tOne : ByteArray := ⟨#[98, 121, 32, 111, 110, 101]⟩
def tTwo : ByteArray := ⟨#[98, 121, 32, 116, 119, 111]⟩
/-- what the law of meeting comes to -/
structure MeetOk (l0 l1 : List Rc) (u v : Int) : Prop where
  all : ∃ a b p q r t z n, addM 0 l0 ⟨0, 0, 1000, -1, 0, 1, tFirst⟩ = some a ∧ numF 0 a = n ∧ a.length ≤ 150 ∧ (∀ r ∈ a, 1 ≤ r.num ∧ r.num ≤ 150) ∧ mrgM 1 l1 0 a = some b ∧
    corM 0 a ⟨0, 0, 1001 + u, 0, n, 1, tOne⟩ = some p ∧ corM 1 b ⟨0, 0, 1001 + v, 0, n, 1, tTwo⟩ = some q ∧
    mrgM 0 p 1 q = some r ∧ mrgM 1 q 0 p = some r ∧ foldL r = t ++ [z] ∧ z.text = (if u > v then tOne else tTwo) ∧ r.length ≤ 150
theorem meets {l0 l1 G : List Rc} (hn : (G.map keyR).Nodup) (hg : G.length ≤ 24) (h0 : InG G l0) (h1 : InG G l1) (o0 : ∀ r ∈ G, r.pen = 0 → r ∈ l0) (o1 : ∀ r ∈ G, r.pen = 1 → r ∈ l1)
    (hat : ∀ r ∈ G, r.at_ ≤ 96) {u v : Int} (hu : 0 ≤ u ∧ u < 50) (hv : 0 ≤ v ∧ v < 50) : MeetOk l0 l1 u v := by
  -- the first record
  obtain ⟨ea, va⟩ := adds (p := 0) (x := ⟨0, 0, 1000, -1, 0, 1, tFirst⟩) (by omega) h0.vl (by have := h0.len; omega) (by decide) (by decide) (by decide) (fun r hr _ => by have := hat r (h0.sub r hr); show r.at_ ≤ 1000; omega) (.inl ⟨rfl, rfl⟩)
  generalize hx1 : newx 0 l0 ⟨0, 0, 1000, -1, 0, 1, tFirst⟩ = x1 at *
  have i1 : InG (x1 :: G) (putL l0 x1) := put_in h0 va
  have n1 : ((x1 :: G).map keyR).Nodup := by rw [← hx1]; exact nd_new _ hn h0.vl o0
  have num1 : numF 0 (putL l0 x1) = x1.num := by
    have e : x1.num = (cntP 0 l0 : Int) + 1 := by rw [← hx1]; rfl
    rw [e, ← hx1]
    exact numF_put _ h0.vl (by rw [hx1]; exact va)
  have at1 : x1.at_ = 1000 := by rw [← hx1]; rfl
  have p1 : x1.pen = 0 := by rw [← hx1]; rfl
  have rt1 : rootB x1 = true := by rw [← hx1]; rfl
  have m1 : x1 ∈ putL l0 x1 := mem_putL.2 (.inl rfl)
  generalize ha : putL l0 x1 = a at *
  have la : a.length ≤ 25 := by have := i1.len; simp only [List.length_cons] at this; omega
  -- the second pen hears of it
  have i1' : InG (x1 :: G) l1 := h1.more x1
  obtain ⟨eb, _, gb⟩ := merges n1 (by simp only [List.length_cons]; omega) i1' i1 (p := 1) (q := 0) (by omega) (by omega)
  generalize hb : mgL l1 a = b at *
  have lb : b.length ≤ 25 := by have := gb.inn.len; simp only [List.length_cons] at this; omega
  have hat1 : ∀ r ∈ x1 :: G, r.at_ ≤ 1000 := fun r hr => by
    rcases List.mem_cons.1 hr with rfl | hr
    · omega
    · have := hat r hr; omega
  have k1 : keyR x1 = (0, x1.num) := by show (x1.pen, x1.num) = _; rw [p1]
  -- the first correction
  obtain ⟨ep, vp⟩ := adds (p := 0) (x := ⟨0, 0, 1001 + u, 0, x1.num, 1, tOne⟩) (by omega) i1.vl (by omega) (by show 0 ≤ 1001 + u ∧ 1001 + u ≤ 1000000; omega) (by show (0 : Int) ≤ 1 ∧ (1 : Int) ≤ 15; omega) (by show tOne.size ≤ 4000; decide)
    (fun r hr _ => by have := hat1 r (i1.sub r hr); show r.at_ ≤ 1001 + u; omega) (.inr ⟨x1, m1, k1, by show x1.at_ < 1001 + u; omega⟩)
  generalize hx2 : newx 0 a ⟨0, 0, 1001 + u, 0, x1.num, 1, tOne⟩ = x2 at *
  have i2 : InG (x2 :: x1 :: G) (putL a x2) := put_in i1 vp
  have n2 : ((x2 :: x1 :: G).map keyR).Nodup := by
    rw [← hx2]
    refine nd_new _ n1 i1.vl fun r hr hp => ?_
    rcases List.mem_cons.1 hr with rfl | hr
    · exact m1
    · rw [← ha]; exact mem_putL.2 (.inr (o0 r hr hp))
  have at2 : x2.at_ = 1001 + u := by rw [← hx2]; rfl
  have p2 : x2.pen = 0 := by rw [← hx2]; rfl
  have t2 : tgt x2 = keyR x1 := by rw [k1, ← hx2]; rfl
  have r2 : rootB x2 = false := by rw [← hx2]; show (decide ((0 : Int) = -1) && _) = false; rfl
  have w2 : x2.text = tOne := by rw [← hx2]; rfl
  -- the second correction
  obtain ⟨eq, vq⟩ := adds (p := 1) (x := ⟨0, 0, 1001 + v, 0, x1.num, 1, tTwo⟩) (by omega) gb.inn.vl (by omega) (by show 0 ≤ 1001 + v ∧ 1001 + v ≤ 1000000; omega) (by show (0 : Int) ≤ 1 ∧ (1 : Int) ≤ 15; omega) (by show tTwo.size ≤ 4000; decide)
    (fun r hr _ => by have := hat1 r (gb.inn.sub r hr); show r.at_ ≤ 1001 + v; omega) (.inr ⟨x1, (gb.mem x1).2 (.inr m1), k1, by show x1.at_ < 1001 + v; omega⟩)
  generalize hx3 : newx 1 b ⟨0, 0, 1001 + v, 0, x1.num, 1, tTwo⟩ = x3 at *
  have i3 : InG (x3 :: x2 :: x1 :: G) (putL b x3) := put_in (gb.inn.more x2) vq
  have i2' : InG (x3 :: x2 :: x1 :: G) (putL a x2) := i2.more x3
  have n3 : ((x3 :: x2 :: x1 :: G).map keyR).Nodup := by
    rw [← hx3]
    refine nd_new _ n2 gb.inn.vl fun r hr hp => ?_
    rcases List.mem_cons.1 hr with rfl | hr
    · omega
    · rcases List.mem_cons.1 hr with rfl | hr
      · omega
      · exact (gb.mem r).2 (.inl (o1 r hr hp))
  have at3 : x3.at_ = 1001 + v := by rw [← hx3]; rfl
  have p3 : x3.pen = 1 := by rw [← hx3]; rfl
  have t3 : tgt x3 = keyR x1 := by rw [k1, ← hx3]; rfl
  have r3 : rootB x3 = false := by rw [← hx3]; show (decide ((0 : Int) = -1) && _) = false; rfl
  have w3 : x3.text = tTwo := by rw [← hx3]; rfl
  -- they meet
  obtain ⟨er, _, gr⟩ := merges n3 (by simp only [List.length_cons]; omega) i2' i3 (p := 0) (q := 1) (by omega) (by omega)
  obtain ⟨es, _, gs⟩ := merges n3 (by simp only [List.length_cons]; omega) i3 i2' (p := 1) (q := 0) (by omega) (by omega)
  have ers : mgL (putL b x3) (putL a x2) = mgL (putL a x2) (putL b x3) := vl_same gs.inn.vl gr.inn.vl fun r => by rw [gs.mem, gr.mem]; exact or_comm
  rw [ers] at es
  have hm : ∀ r, r ∈ mgL (putL a x2) (putL b x3) → r = x1 ∨ r = x2 ∨ r = x3 ∨ r ∈ G := fun r hr => by
    have := gr.inn.sub r hr
    simp only [List.mem_cons] at this
    rcases this with h | h | h | h
    · exact .inr (.inr (.inl h))
    · exact .inr (.inl h)
    · exact .inl h
    · exact .inr (.inr (.inr h))
  have q1 : x1 ∈ mgL (putL a x2) (putL b x3) := (gr.mem x1).2 (.inl (mem_putL.2 (.inr m1)))
  have q2 : x2 ∈ mgL (putL a x2) (putL b x3) := (gr.mem x2).2 (.inl (mem_putL.2 (.inl rfl)))
  have q3 : x3 ∈ mgL (putL a x2) (putL b x3) := (gr.mem x3).2 (.inr (mem_putL.2 (.inl rfl)))
  have hvr := gr.inn.vl
  have hlr : (mgL (putL a x2) (putL b x3)).length ≤ 150 := by have := gr.inn.len; simp only [List.length_cons] at this; omega
  generalize hr' : mgL (putL a x2) (putL b x3) = r at *
  have f1 : fdR (keyR x1) r = some x1 := fd_mem hvr.nd q1
  have g2 : rootR r x2 = x1 := by rw [root_step hvr q2 r2 (by rw [t2]; exact f1)]; exact root_self rt1
  have g3 : rootR r x3 = x1 := by rw [root_step hvr q3 r3 (by rw [t3]; exact f1)]; exact root_self rt1
  obtain ⟨t, ht⟩ : ∃ t, (ordL r).filter rootB = t ++ [x1] := last_of (fun _ _ => bf_asym) ((ord_srt hvr.nd).filter _) (List.mem_filter.2 ⟨mem_ord.2 q1, rt1⟩) fun y hy hne => by
    obtain ⟨y1, y2⟩ := List.mem_filter.1 hy
    rcases hm y (mem_ord.1 y1) with h | h | h | h
    · exact absurd h hne
    · rw [h, r2] at y2; cases y2
    · rw [h, r3] at y2; cases y2
    · have := hat y h
      exact bf_iff.2 (.inl (by omega))
  have hz : ∃ z t', famL r (keyR x1) = t' ++ [z] ∧ z.text = (if u > v then tOne else tTwo) := by
    by_cases huv : u > v
    · obtain ⟨t', e⟩ := last_of (x := x2) (fun _ _ => bf_asym) (fam_srt hvr (keyR x1)) (mem_fam.2 ⟨q2, by rw [g2]⟩) fun y hy hne => by
        rcases hm y (mem_fam.1 hy).1 with h | h | h | h
        · exact bf_iff.2 (.inl (by rw [h]; omega))
        · exact absurd h hne
        · exact bf_iff.2 (.inl (by rw [h]; omega))
        · have := hat y h
          exact bf_iff.2 (.inl (by omega))
      exact ⟨x2, t', e, by rw [if_pos huv, w2]⟩
    · obtain ⟨t', e⟩ := last_of (x := x3) (fun _ _ => bf_asym) (fam_srt hvr (keyR x1)) (mem_fam.2 ⟨q3, by rw [g3]⟩) fun y hy hne => by
        rcases hm y (mem_fam.1 hy).1 with h | h | h | h
        · exact bf_iff.2 (.inl (by rw [h]; omega))
        · exact bf_iff.2 (by rw [h]; omega)
        · exact absurd h hne
        · have := hat y h
          exact bf_iff.2 (.inl (by omega))
      exact ⟨x3, t', e, by rw [if_neg huv, w3]⟩
  obtain ⟨z, t', hz1, hz2⟩ := hz
  have hsz : ¬ z.text.size = 0 := by rw [hz2]; split <;> decide
  have hh : holdR r x1 = some z := by
    unfold holdR
    rw [hz1, List.getLast?_append]
    simp only [List.getLast?_singleton, Option.some_or, if_neg hsz]
  refine ⟨a, b, putL a x2, putL b x3, r, t.filterMap (holdR r), z, x1.num, ea, num1, by omega, fun s hs => ?_, eb, ?_, ?_, er, es, ?_, hz2, hlr⟩
  · have := fm_num (i1.vl.fm s hs)
    omega
  · unfold corM; rw [if_neg (show ¬ ((0 : Int) = -1 ∧ x1.num = 0) by omega)]; exact ep
  · unfold corM; rw [if_neg (show ¬ ((0 : Int) = -1 ∧ x1.num = 0) by omega)]; exact eq
  · unfold foldL
    rw [ht, List.filterMap_append, List.filterMap_cons_some hh]
    rfl
theorem meets_mad (xs : List I4) {u v : Int} (hu : 0 ≤ u ∧ u < 50) (hv : 0 ≤ v ∧ v < 50) : MeetOk (madL xs)[0]! (madL xs)[1]! u v := by
  obtain ⟨G, h⟩ := mad_inv xs
  exact meets h.nd h.few ⟨h.vl 0 (by omega), h.sub 0 (by omega)⟩ ⟨h.vl 1 (by omega), h.sub 1 (by omega)⟩ (h.own 0 (by omega)) (h.own 1 (by omega)) (fun r hr => by have := h.at_ r hr; omega) hu hv
end Go.Proofs.YtcfbgelhggapjaaGreatDoor
/- Replica: the law of meeting. -/
namespace Go.Proofs.YtcfbgelhggapjaaGreatDoor
open Go.RowKit Go.Shelf
set_option linter.unusedSimpArgs false in
set_option maxRecDepth 100000 in
set_option maxHeartbeats 16000000 in
theorem c_Meets (A : Option Addr) (N c : Nat) (xs : List I4) (one two : Int) (w : World) (hR : RL w) (hN : N ≤ 9223372036854775807) (hx : ∀ x ∈ xs, ok4 x) (hl : xs.length = N) (hr : SlR w w.heap.size 4 A xs.length (xs.flatMap c4))
    (ho1 : -9223372036854775808 ≤ one) (ho2 : one ≤ 9223372036854775807) (ht1 : -9223372036854775808 ≤ two) (ht2 : two ≤ 9223372036854775807) :
    Calls Tryz.prog 8 #[.slice A N c, .int .i64 one, .int .i64 two] w fun e w' => e = .returned (.bool true) ∧ Below w.heap.size w w' := by
  have hw0 := hR.lt
  have HRw := hide hR
  have HX := hide (And.intro hx (And.intro hl hr))
  clear hx hl hr
  go_enter Tryz.func8, Tryz.ntmps8
  go_upto_region 2 with (go_at_call 10; refine (c_lsane w HRw.out).mono ?_; rintro e w1 ⟨rfl, hb1⟩; have HB1 := hide hb1; clear hb1)
  go_upto_region 5 with (go_at_call 11; refine (c_Made A N c xs w1 hN HX.out.1 HX.out.2.1 (HX.out.2.2.to' HB1.out)).mono ?_; rintro e w2 ⟨rfl, hT, hb2⟩; have HT := hide hT; have HB2 := hide (And.intro hb2 (And.intro (bthen HB1.out hb2) (HRw.out.to' (bthen HB1.out hb2)))); clear hb2 hT)
  obtain ⟨l0, hl0⟩ : ∃ l0, (madL xs)[0]! = l0 := ⟨_, rfl⟩
  obtain ⟨l1, hl1⟩ : ∃ l1, (madL xs)[1]! = l1 := ⟨_, rfl⟩
  have hu := pk_range one 50 (by omega)
  have hv := pk_range two 50 (by omega)
  have hM := meets_mad xs hu hv
  rw [hl0, hl1] at hM
  obtain ⟨a, bb, p, q, r, t, z, n, e1, e2, e3, e4, e5, e6, e7, e8, e9, e10, e11, e12⟩ := hM.all
  have HM := hide (And.intro e1 (And.intro e2 (And.intro e3 (And.intro e4 (And.intro e5 (And.intro e6 (And.intro e7 (And.intro e8 (And.intro e9 (And.intro e10 (And.intro e11 e12)))))))))))
  clear e1 e2 e3 e4 e5 e6 e7 e8 e9 e10 e11 e12 hM
  obtain ⟨n0, hn0⟩ : ∃ n, l0.length = n := ⟨_, rfl⟩
  obtain ⟨n1, hn1⟩ : ∃ n, l1.length = n := ⟨_, rfl⟩
  obtain ⟨A0, c0, k0, k0', h0⟩ := HT.out.bx (k := 0) (by omega) hl0 hn0
  obtain ⟨A1, c1, k1, k1', h1⟩ := HT.out.bx (k := 1) (by omega) hl1 hn1
  have H01 : Hid (∀ W, Below w2.heap.size w2 W → (W.cell? ⟨w1.heap.size, 0, none⟩ = some (.int .i64 0) ∧ W.cell? ⟨w1.heap.size, 1, none⟩ = some (.slice A0 n0 c0) ∧ w1.heap.size < W.heap.size ∧ SlR W W.heap.size 7 A0 n0 (l0.flatMap cR)) ∧ (W.cell? ⟨w1.heap.size, 2, none⟩ = some (.int .i64 1) ∧ W.cell? ⟨w1.heap.size, 3, none⟩ = some (.slice A1 n1 c1) ∧ w1.heap.size < W.heap.size ∧ SlR W W.heap.size 7 A1 n1 (l1.flatMap cR)) ∧ RL W) := hide (fun W h => ⟨h0 W h, h1 W h, HB2.out.2.2.to' h⟩)
  clear h0 h1 hl0 hl1 hn0 hn1
  obtain ⟨na, hna⟩ : ∃ n, a.length = n := ⟨_, rfl⟩
  have HNa := hide hna
  have hna' : na ≤ 150 := by have := HM.out.2.2.1; omega
  clear hna
  have HNN := hide (And.intro k0 (And.intro k0' (And.intro k1 k1')))
  obtain ⟨x0, x1, x2, x3⟩ := (H01.out w2 (Below.refl _ _)).1
  clear x3
  go_upto_region 6 with (go_at_call 18; refine (c_pAdd 0 1000 1 tFirst A0 n0 c0 l0 w2 HB2.out.2.2 HNN.out.1 HNN.out.2.1 (H01.out w2 (Below.refl _ _)).1.2.2.2).mono ?_; rintro e w3 hp; rw [HM.out.1] at hp; obtain ⟨hb, A3, c3, rfl, hk1, hk2, hsn⟩ := RepPost.some' HNa.out hp; clear hp x0 x1 x2; have H3 := hide (And.intro hb (And.intro hsn (And.intro hk1 hk2))); clear hb hsn hk1 hk2)
  have g9 : Bx (w3.alloc (.cells #[.int .i64 0, .slice A3 na c3] 25)) w3.heap.size 0 A3 na c3 a := ⟨Blk.new w3 25 [.int .i64 0, .slice A3 na c3], H3.out.2.1.1.to' (balloc (Below.refl _ _) _), H3.out.2.2.1, H3.out.2.2.2⟩
  have hb4 := balloc H3.out.1 (.cells #[.int .i64 0, .slice A3 na c3] 25)
  generalize w3.alloc (.cells #[.int .i64 0, .slice A3 na c3] 25) = w4 at *
  have H9 := hide g9
  have HB4 := hide hb4
  have h39 := g9.cells.2.2
  clear g9 hb4
  obtain ⟨x0, x1, x2⟩ := H9.out.cells
  go_wp2_with fail
  go_loopw [11, 12] (fun z i W => ∃ k : Nat, k ≤ na ∧ i = .int .i64 k ∧ z = .int .i64 (numF 0 (a.take k)) ∧ Below w4.heap.size w4 W) (fun _ i _ => na - (intOf i).toNat)
  case atStart => exact ⟨0, Nat.zero_le _, rfl, rfl, Below.refl _ _⟩
  case round =>
    obtain ⟨k, hk, rfl, rfl, hbW⟩ := hrel
    have h9 := H9.out.to hbW
    obtain ⟨y0, y1, y2⟩ := h9.cells
    by_cases hlt : k < na
    · have hki : (k : Int) < (na : Int) := by omega
      have hkl : k < a.length := by have := HNa.out; omega
      obtain ⟨b, off, rfl, hbb⟩ := h9.slr.some_of (by omega)
      obtain ⟨-, v0, v1, v2, v3, v4, v5, v6⟩ := h9.slr.cellsR (Below.refl _ _) hkl
      have HS := hide (show numF 0 (a.take (k + 1)) = if (a[k]'hkl).pen = 0 then (a[k]'hkl).num else numF 0 (a.take k) by rw [List.take_succ_eq_append_getElem hkl, numF_snoc])
      generalize a[k]'hkl = s at *
      obtain ⟨rp, rn, rt, ro, rw', rk, rx⟩ := s
      dsimp only at v0 v1 v2 v3 v4 v5 v6 HS
      have HW := hide hbW
      clear h9 hbW v2 v3 v4 v5 v6
      by_cases hpen : rp = 0
      · have HS1 := hide (HS.out.trans (if_pos hpen))
        clear HS
        subst hpen
        go_wp2_with fail
        have hw1 : wrap64 ((k : Int) + 1) = ((k + 1 : Nat) : Int) := (Go.IntWalk.wrap64_in _ (by omega)).trans rfl
        try rw [hw1]
        clear hw1
        refine ⟨⟨k + 1, hlt, rfl, by rw [HS1.out], HW.out⟩, ?_⟩
        show na - ((k : Int) + 1).toNat < na - ((k : Nat) : Int).toNat
        omega
      · have HS1 := hide (HS.out.trans (if_neg hpen))
        clear HS
        go_wp2_with fail
        have hw1 : wrap64 ((k : Int) + 1) = ((k + 1 : Nat) : Int) := (Go.IntWalk.wrap64_in _ (by omega)).trans rfl
        try rw [hw1]
        clear hw1
        refine ⟨⟨k + 1, hlt, rfl, by rw [HS1.out], HW.out⟩, ?_⟩
        show na - ((k : Int) + 1).toNat < na - ((k : Nat) : Int).toNat
        omega
    · obtain rfl : k = na := by omega
      have hnum : numF 0 (a.take k) = n := by rw [← HNa.out, List.take_length]; exact HM.out.2.1
      rw [hnum]
      clear hnum x0 x1 x2
      obtain ⟨w5, rfl⟩ : ∃ w5, w5 = wr := ⟨_, rfl⟩
      have HB5 := hide hbW
      clear h9 hbW
      go_wp2_with fail
      obtain ⟨nb, hnb⟩ : ∃ n, bb.length = n := ⟨_, rfl⟩
      have HNb := hide hnb
      clear hnb
      have HS : Hid (∀ W, Below w5.heap.size w5 W → W.cell? ⟨w1.heap.size, 2, none⟩ = some (.int .i64 1) ∧ W.cell? ⟨w1.heap.size, 3, none⟩ = some (.slice A1 n1 c1) ∧ W.cell? ⟨w3.heap.size, 0, none⟩ = some (.int .i64 0) ∧ W.cell? ⟨w3.heap.size, 1, none⟩ = some (.slice A3 k c3) ∧ Below w5.heap.size w5 W) := hide (fun W h => by
        obtain ⟨-, g2, -⟩ := H01.out W (bthen HB4.out (bthen HB5.out h))
        have g9 := (H9.out.to (bthen HB5.out h)).cells
        exact ⟨g2.1, g2.2.1, g9.1, g9.2.1, h⟩)
      have HGv : Hid (∀ W, Below w5.heap.size w5 W → Calls Tryz.prog 26 #[.agg #[.int .i64 1, .slice A1 n1 c1], .agg #[.int .i64 0, .slice A3 k c3]] W (RepPost 1 (some bb) W)) := hide (fun W h => by
        obtain ⟨-, g2, g3⟩ := H01.out W (bthen HB4.out (bthen HB5.out h))
        have := c_pMerge 1 A1 n1 c1 l1 0 A3 k c3 a W g3 (by have := HNN.out; omega) (by omega) g2.2.2.2 (H9.out.to (bthen HB5.out h)).slr
        rw [HM.out.2.2.2.2.1] at this
        exact this)
      have hg5 : w1.heap.size < w5.heap.size := (H01.out w5 (bthen HB4.out HB5.out)).2.1.2.2.1
      clear y0 y1 y2
      go_cut [13, 14] from 62 to 69 (fun v u wx => BxCut 1 bb nb w5 v u wx)
      case first =>
        go_region_held3 (fun W => W.cell? ⟨w1.heap.size, 2, none⟩ = some (.int .i64 1) ∧ W.cell? ⟨w1.heap.size, 3, none⟩ = some (.slice A1 n1 c1) ∧ W.cell? ⟨w3.heap.size, 0, none⟩ = some (.int .i64 0) ∧ W.cell? ⟨w3.heap.size, 1, none⟩ = some (.slice A3 k c3) ∧ Below w5.heap.size w5 W)
          (first | exact HS.out _ (by assumption) | exact HS.out _ (bdrew (Below.refl _ _)) | exact HS.out _ h8 | exact HS.out _ (balloc h8 _) | exact HS.out _ (bset (bset h8 (Nat.le_refl _) _) (Nat.le_refl _) _) | (go_split_ands; first | exact HS.out _ (by assumption) | exact HS.out _ (bthen (by assumption) (by assumption)) | exact HS.out _ (balloc (by assumption) _) | exact HS.out _ (bdrew (balloc (Below.refl _ _) _)) | exact HS.out _ (balloc (bthen (by assumption) (by assumption)) _)))
          ((go_split_ands; go_at_call 26; refine (HGv.out _ (by assumption)).mono ?_; rintro e w8 hp; obtain ⟨hb8, A8, c8, rfl, hk1, hk2, hsn⟩ := RepPost.some' HNb.out hp; clear hp; have h8 : Below w5.heap.size w5 w8 := bthen (by assumption) hb8; (try (obtain ⟨q0, q1, q2, q3⟩ := (((Blk.new w5 25 [.int .i64 0, .slice none 0 0]).drew).below hb8 (by simp)).all2; have q4 : w5.heap.size < w8.heap.size := (((Blk.new w5 25 [.int .i64 0, .slice none 0 0]).drew).below hb8 (by simp)).lt))))
        · go_wp2_with fail
          go_meet
          exact BxCut.late h8 hsn hk1 hk2
        · go_wp2_with fail
          go_meet
          exact BxCut.early hb8 (by simpa using hsn) hk1 hk2
      case rest =>
        obtain ⟨w6, rfl⟩ : ∃ w6, w6 = wc := ⟨_, rfl⟩
        obtain ⟨bB, AB, cB, rfl, rfl, hle6, hBB, hb56⟩ := hcut
        clear HS HGv
        have HBB := hide hBB
        have HB6 := hide hb56
        have hB6l := hBB.cells.2.2
        clear hBB hb56
        have hpk1 : ∀ W : World, Calls Tryz.prog 21 #[.int .i64 one, .int .i64 50] W fun e w' => e = .returned (.int .i64 (pk one 50)) ∧ W = w' := fun W => c_lpick one 50 W ho1 ho2 (by omega) (by omega)
        have hpk2 : ∀ W : World, Calls Tryz.prog 21 #[.int .i64 two, .int .i64 50] W fun e w' => e = .returned (.int .i64 (pk two 50)) ∧ W = w' := fun W => c_lpick two 50 W ht1 ht2 (by omega) (by omega)
        generalize pk one 50 = u at *
        generalize pk two 50 = v at *
        have hnb' : nb ≤ 150 := by
          have h1 := mrg_some HM.out.2.2.2.2.1
          have h2 := (vr_iff.1 (mg_valid h1.1)).2.1
          rw [← h1.2, HNb.out] at h2; exact h2
        obtain ⟨np, hnp⟩ : ∃ n, p.length = n := ⟨_, rfl⟩
        have HNp := hide hnp
        clear hnp
        have HS : Hid (∀ W, Below w6.heap.size w6 W → W.cell? ⟨w3.heap.size, 0, none⟩ = some (.int .i64 0) ∧ W.cell? ⟨w3.heap.size, 1, none⟩ = some (.slice A3 k c3) ∧ Below w6.heap.size w6 W) := hide (fun W h => ⟨(H9.out.to (bthen HB5.out (bthen HB6.out h))).cells.1, (H9.out.to (bthen HB5.out (bthen HB6.out h))).cells.2.1, h⟩)
        have HGv : Hid (∀ W, Below w6.heap.size w6 W → Calls Tryz.prog 22 #[.agg #[.int .i64 0, .slice A3 k c3], .int .i64 (IntKind.i64.wrap (1001 + u)), .int .i64 0, .int .i64 n, .int .i64 1, .string ⟨#[98, 121, 32, 111, 110, 101]⟩] W (RepPost 0 (some p) W)) := hide (fun W h => by
          have h9 := H9.out.to (bthen HB5.out (bthen HB6.out h))
          have := c_pCorrect 0 (1001 + u) 0 n 1 tOne A3 k c3 a W (H01.out W (bthen HB4.out (bthen HB5.out (bthen HB6.out h)))).2.2 h9.hnc h9.hc h9.slr
          rw [HM.out.2.2.2.2.2.1] at this
          rw [show IntKind.i64.wrap (1001 + u) = 1001 + u from i64w (by omega) (by omega)]
          exact this)
        have hnp' : np ≤ 150 := by
          have h2 := (vr_iff.1 (add_some (cor_some HM.out.2.2.2.2.2.1)).2.2).2.1
          rw [HNp.out] at h2; exact h2
        go_wp2_with fail
        go_cut [15, 16] from 70 to 78 (fun v' u' wx => BxCut 0 p np w6 v' u' wx)
        case first =>
          go_region_held3 (fun W => W.cell? ⟨w3.heap.size, 0, none⟩ = some (.int .i64 0) ∧ W.cell? ⟨w3.heap.size, 1, none⟩ = some (.slice A3 k c3) ∧ Below w6.heap.size w6 W)
            (first | exact HS.out _ (by assumption) | exact HS.out _ (bdrew (Below.refl _ _)) | exact HS.out _ h8 | exact HS.out _ (balloc h8 _) | exact HS.out _ (bset (bset h8 (Nat.le_refl _) _) (Nat.le_refl _) _) | (go_split_ands; first | exact HS.out _ (by assumption) | exact HS.out _ (bthen (by assumption) (by assumption)) | exact HS.out _ (balloc (by assumption) _) | exact HS.out _ (bdrew (balloc (Below.refl _ _) _)) | exact HS.out _ (balloc (bthen (by assumption) (by assumption)) _)))
            (first | (go_at_call 21; with_reducible refine (hpk1 _).mono ?_; rintro e w' ⟨rfl, rfl⟩) | (go_split_ands; go_at_call 22; with_reducible refine (HGv.out _ (by assumption)).mono ?_; rintro e w8 hp; obtain ⟨hb8, A8, c8, rfl, hk1, hk2, hsn⟩ := RepPost.some' HNp.out hp; clear hp; have h8 : Below w6.heap.size w6 w8 := bthen (by assumption) hb8; (try (obtain ⟨q0, q1, q2, q3⟩ := (((Blk.new w6 25 [.int .i64 0, .slice none 0 0]).drew).below hb8 (by simp)).all2; have q4 : w6.heap.size < w8.heap.size := (((Blk.new w6 25 [.int .i64 0, .slice none 0 0]).drew).below hb8 (by simp)).lt))))
          all_goals
            go_wp2_with fail
            go_meet
            first | exact BxCut.late h8 hsn hk1 hk2 | exact BxCut.early hb8 (by simpa using hsn) hk1 hk2
        case rest =>
          obtain ⟨w7, rfl⟩ : ∃ w7, w7 = wc := ⟨_, rfl⟩
          obtain ⟨bP, AP, cP, rfl, rfl, hle7, hBP, hb67⟩ := hcut
          clear HS HGv
          have HBP := hide hBP
          have HB7 := hide hb67
          have hB7l := hBP.cells.2.2
          clear hBP hb67
          obtain ⟨nq, hnq⟩ : ∃ n, q.length = n := ⟨_, rfl⟩
          have HNq := hide hnq
          clear hnq
          have HS : Hid (∀ W, Below w7.heap.size w7 W → W.cell? ⟨bB, 0, none⟩ = some (.int .i64 1) ∧ W.cell? ⟨bB, 1, none⟩ = some (.slice AB nb cB) ∧ Below w7.heap.size w7 W) := hide (fun W h => ⟨(HBB.out.to (bthen HB7.out h)).cells.1, (HBB.out.to (bthen HB7.out h)).cells.2.1, h⟩)
          have HGv : Hid (∀ W, Below w7.heap.size w7 W → Calls Tryz.prog 22 #[.agg #[.int .i64 1, .slice AB nb cB], .int .i64 (IntKind.i64.wrap (1001 + v)), .int .i64 0, .int .i64 n, .int .i64 1, .string ⟨#[98, 121, 32, 116, 119, 111]⟩] W (RepPost 1 (some q) W)) := hide (fun W h => by
            have h9 := HBB.out.to (bthen HB7.out h)
            have := c_pCorrect 1 (1001 + v) 0 n 1 tTwo AB nb cB bb W (H01.out W (bthen HB4.out (bthen HB5.out (bthen HB6.out (bthen HB7.out h))))).2.2 h9.hnc h9.hc h9.slr
            rw [HM.out.2.2.2.2.2.2.1] at this
            rw [show IntKind.i64.wrap (1001 + v) = 1001 + v from i64w (by omega) (by omega)]
            exact this)
          have hnq' : nq ≤ 150 := by
            have h2 := (vr_iff.1 (add_some (cor_some HM.out.2.2.2.2.2.2.1)).2.2).2.1
            rw [HNq.out] at h2; exact h2
          go_wp2_with fail
          go_cut [17, 18] from 79 to 87 (fun v' u' wx => BxCut 1 q nq w7 v' u' wx)
          case first =>
            go_region_held3 (fun W => W.cell? ⟨bB, 0, none⟩ = some (.int .i64 1) ∧ W.cell? ⟨bB, 1, none⟩ = some (.slice AB nb cB) ∧ Below w7.heap.size w7 W)
              (first | exact HS.out _ (by assumption) | exact HS.out _ (bdrew (Below.refl _ _)) | exact HS.out _ h8 | exact HS.out _ (balloc h8 _) | exact HS.out _ (bset (bset h8 (Nat.le_refl _) _) (Nat.le_refl _) _) | (go_split_ands; first | exact HS.out _ (by assumption) | exact HS.out _ (bthen (by assumption) (by assumption)) | exact HS.out _ (balloc (by assumption) _) | exact HS.out _ (bdrew (balloc (Below.refl _ _) _)) | exact HS.out _ (balloc (bthen (by assumption) (by assumption)) _)))
              (first | (go_at_call 21; with_reducible refine (hpk2 _).mono ?_; rintro e w' ⟨rfl, rfl⟩) | (go_split_ands; go_at_call 22; with_reducible refine (HGv.out _ (by assumption)).mono ?_; rintro e w8 hp; obtain ⟨hb8, A8, c8, rfl, hk1, hk2, hsn⟩ := RepPost.some' HNq.out hp; clear hp; have h8 : Below w7.heap.size w7 w8 := bthen (by assumption) hb8; (try (obtain ⟨q0, q1, q2, q3⟩ := (((Blk.new w7 25 [.int .i64 0, .slice none 0 0]).drew).below hb8 (by simp)).all2; have q4 : w7.heap.size < w8.heap.size := (((Blk.new w7 25 [.int .i64 0, .slice none 0 0]).drew).below hb8 (by simp)).lt))))
            all_goals
              go_wp2_with fail
              go_meet
              first | exact BxCut.late h8 hsn hk1 hk2 | exact BxCut.early hb8 (by simpa using hsn) hk1 hk2
          case rest =>
            obtain ⟨w8, rfl⟩ : ∃ w8, w8 = wc := ⟨_, rfl⟩
            obtain ⟨bQ, AQ, cQ, rfl, rfl, hle8, hBQ, hb78⟩ := hcut
            clear HS HGv
            have HBQ := hide hBQ
            have HB8 := hide hb78
            have hB8l := hBQ.cells.2.2
            clear hBQ hb78
            have HPQ : Hid (∀ W, Below w8.heap.size w8 W → Bx W bP 0 AP np cP p ∧ Bx W bQ 1 AQ nq cQ q ∧ RL W) := hide (fun W h => ⟨HBP.out.to (bthen HB8.out h), HBQ.out.to h, (H01.out W (bthen HB4.out (bthen HB5.out (bthen HB6.out (bthen HB7.out (bthen HB8.out h)))))).2.2⟩)
            have HW8 := hide (bthen HB2.out.2.1 (bthen HB4.out (bthen HB5.out (bthen HB6.out (bthen HB7.out HB8.out)))))
            obtain ⟨nr, hnr⟩ : ∃ n, r.length = n := ⟨_, rfl⟩
            have HNr := hide hnr
            have hnr' : nr ≤ 150 := by have h2 := HM.out.2.2.2.2.2.2.2.2.2.2.2; rw [hnr] at h2; exact h2
            clear hnr
            obtain ⟨x0, x1, x2⟩ := (HPQ.out w8 (Below.refl _ _)).1.cells
            obtain ⟨y0, y1, y2⟩ := (HPQ.out w8 (Below.refl _ _)).2.1.cells
            go_upto_region 20 with (go_at_call 26; refine (c_pMerge 0 AP np cP p 1 AQ nq cQ q w8 (HPQ.out w8 (Below.refl _ _)).2.2 (by omega) (by omega) (HPQ.out w8 (Below.refl _ _)).1.slr (HPQ.out w8 (Below.refl _ _)).2.1.slr).mono ?_; rintro e w9 hp; rw [HM.out.2.2.2.2.2.2.2.1] at hp; obtain ⟨hb, A9, c9, rfl, hk1, hk2, hsn⟩ := RepPost.some' HNr.out hp; clear hp x0 x1 x2 y0 y1 y2; have H9b := hide (And.intro hb (And.intro hsn (And.intro hk1 hk2))); clear hb hsn hk1 hk2)
            have g19 : Bx (w9.alloc (.cells #[.int .i64 0, .slice A9 nr c9] 25)) w9.heap.size 0 A9 nr c9 r := ⟨Blk.new w9 25 [.int .i64 0, .slice A9 nr c9], H9b.out.2.1.1.to' (balloc (Below.refl _ _) _), H9b.out.2.2.1, H9b.out.2.2.2⟩
            have hb10 := balloc H9b.out.1 (.cells #[.int .i64 0, .slice A9 nr c9] 25)
            generalize w9.alloc (.cells #[.int .i64 0, .slice A9 nr c9] 25) = w10 at *
            have H19 := hide g19
            have HB10 := hide hb10
            have h910 := g19.cells.2.2
            clear g19 hb10
            obtain ⟨x0, x1, x2⟩ := (HPQ.out w10 HB10.out).1.cells
            obtain ⟨y0, y1, y2⟩ := (HPQ.out w10 HB10.out).2.1.cells
            go_upto_region 21 with (go_at_call 26; refine (c_pMerge 1 AQ nq cQ q 0 AP np cP p w10 (HPQ.out w10 HB10.out).2.2 (by omega) (by omega) (HPQ.out w10 HB10.out).2.1.slr (HPQ.out w10 HB10.out).1.slr).mono ?_; rintro e w11 hp; rw [HM.out.2.2.2.2.2.2.2.2.1] at hp; obtain ⟨hb, A11, c11, rfl, hk1, hk2, hsn⟩ := RepPost.some' HNr.out hp; clear hp x0 x1 x2 y0 y1 y2; have H11 := hide (And.intro hb (And.intro hsn (And.intro hk1 hk2))); clear hb hsn hk1 hk2)
            have g21 : Bx (w11.alloc (.cells #[.int .i64 1, .slice A11 nr c11] 25)) w11.heap.size 1 A11 nr c11 r := ⟨Blk.new w11 25 [.int .i64 1, .slice A11 nr c11], H11.out.2.1.1.to' (balloc (Below.refl _ _) _), H11.out.2.2.1, H11.out.2.2.2⟩
            have hb12 := balloc H11.out.1 (.cells #[.int .i64 1, .slice A11 nr c11] 25)
            generalize w11.alloc (.cells #[.int .i64 1, .slice A11 nr c11] 25) = w12 at *
            have H21 := hide g21
            have HB12 := hide hb12
            have h1112 := g21.cells.2.2
            clear g21 hb12
            have HR2 : Hid (∀ W, Below w12.heap.size w12 W → Bx W w9.heap.size 0 A9 nr c9 r ∧ Bx W w11.heap.size 1 A11 nr c11 r ∧ RL W) := hide (fun W h => ⟨H19.out.to (bthen HB12.out h), H21.out.to h, (HPQ.out W (bthen HB10.out (bthen HB12.out h))).2.2⟩)
            have HV : Hid (vrB 0 r = true ∧ vrB 1 r = true) := hide (by
              have h1 := mrg_some HM.out.2.2.2.2.2.2.2.1
              have h2 := mrg_some HM.out.2.2.2.2.2.2.2.2.1
              exact ⟨by rw [h1.2]; exact mg_valid h1.1, by rw [h2.2]; exact mg_valid h2.1⟩)
            have HF := hide HM.out.2.2.2.2.2.2.2.2.2.1
            obtain ⟨nf, hnf⟩ : ∃ n, (foldL r).length = n := ⟨_, rfl⟩
            have hnf0 : 0 < nf := by rw [HF.out] at hnf; simp at hnf; omega
            have HNf := hide hnf
            clear hnf
            obtain ⟨x0, x1, x2⟩ := (HR2.out w12 (Below.refl _ _)).1.cells
            go_upto_region 22 with (go_at_call 13; refine (c_pFold 0 A9 nr c9 r w12 (HR2.out w12 (Below.refl _ _)).2.2 (by omega) (HR2.out w12 (Below.refl _ _)).1.slr).mono ?_; rintro e w13 hp; rw [HV.out.1, if_pos rfl] at hp; obtain ⟨hb, A13, c13, rfl, hk1, hk2, hsn⟩ := BehPost.some' HNf.out hp; clear hp x0 x1 x2; have HB13 := hide hb; have H13 : Hid (∀ W, Below w13.heap.size w13 W → SlR W W.heap.size 7 A13 nf ((foldL r).flatMap cR)) := hide (fun W h => hsn.1.to' h); clear hb hsn)
            obtain ⟨y0, y1, y2⟩ := (HR2.out w13 HB13.out).2.1.cells
            go_upto_region 23 with (go_at_call 13; refine (c_pFold 1 A11 nr c11 r w13 (HR2.out w13 HB13.out).2.2 (by omega) (HR2.out w13 HB13.out).2.1.slr).mono ?_; rintro e w14 hp; rw [HV.out.2, if_pos rfl] at hp; obtain ⟨hb, A14, c14, rfl, hk3, hk4, hsn⟩ := BehPost.some' HNf.out hp; clear hp y0 y1 y2; have HB14 := hide hb; have H14 : Hid (∀ W, Below w14.heap.size w14 W → SlR W W.heap.size 7 A14 nf ((foldL r).flatMap cR)) := hide (fun W h => hsn.1.to' h); clear hb hsn)
            have hsr : ∀ W, Below w14.heap.size w14 W → Calls Tryz.prog 15 #[.slice A13 nf c13, .slice A14 nf c14] W fun e w' => e = .returned (.bool true) ∧ Below W.heap.size W w' := fun W h => by
              have := c_rSameRecords A13 nf c13 (foldL r) A14 nf c14 (foldL r) W (by omega) (by omega) (H13.out W (bthen HB14.out h)) (H14.out W h)
              rw [decide_eq_true rfl] at this
              exact this
            have hsr14 := hsr w14 (Below.refl _ _)
            clear hsr
            have hnfi : (0 : Int) < (nf : Int) := by omega
            have hnfz : ¬ ((nf : Int) = 0) := by omega
            go_upto_region 26 with (go_at_call 15; refine hsr14.mono ?_; rintro e w15 ⟨rfl, hb15⟩; have HB15 := hide hb15; clear hb15)
            have hz : Hid (∃ h : nf - 1 < (foldL r).length, (foldL r)[nf - 1]'h = z) := hide (by
              have h1 := HNf.out
              have h2 := HF.out
              refine ⟨by omega, ?_⟩
              simp only [h2] at h1 ⊢
              simp only [List.length_append, List.length_singleton] at h1
              rw [List.getElem_append_right (by omega)]
              simp [show nf - 1 - t.length = 0 by omega])
            obtain ⟨bm, om, rfl, hbm⟩ := (H13.out w15 (bthen HB14.out HB15.out)).some_of (by omega)
            have hcz : Hid (∀ W, Below w15.heap.size w15 W → bm < W.heap.size ∧ W.cell? ⟨bm, om + (nf - 1) * 7 + 6, none⟩ = some (.string z.text)) := hide (fun W h => by
              obtain ⟨h1, h2⟩ := hz.out
              have := ((H13.out W (bthen HB14.out (bthen HB15.out h))).cellsR (Below.refl _ _) h1)
              rw [h2] at this
              exact ⟨Nat.lt_of_lt_of_le hbm h.size, this.2.2.2.2.2.2.2⟩)
            obtain ⟨z0, z1⟩ := hcz.out w15 (Below.refl _ _)
            have hzt := HM.out.2.2.2.2.2.2.2.2.2.2.1
            have hpu := hpk1 w15
            have hpv := hpk2 w15
            by_cases huv : u > v
            · rw [if_pos huv] at hzt
              rw [hzt] at z1
              change _ = some (Value.string ⟨#[98, 121, 32, 111, 110, 101]⟩) at z1
              have huv' : v < u := huv
              clear hzt
              go_wp2_with (go_at_call 21; first | (with_reducible refine hpu.mono ?_; rintro e w' ⟨rfl, rfl⟩) | (with_reducible refine hpv.mono ?_; rintro e w' ⟨rfl, rfl⟩))
              go_ret
              exact ⟨rfl, bthen HW8.out (bthen HB10.out (bthen HB12.out (bthen HB13.out (bthen HB14.out HB15.out))))⟩
            · rw [if_neg huv] at hzt
              rw [hzt] at z1
              change _ = some (Value.string ⟨#[98, 121, 32, 116, 119, 111]⟩) at z1
              have huv' : ¬ (v < u) := huv
              clear hzt
              go_wp2_with (go_at_call 21; first | (with_reducible refine hpu.mono ?_; rintro e w' ⟨rfl, rfl⟩) | (with_reducible refine hpv.mono ?_; rintro e w' ⟨rfl, rfl⟩))
              go_ret
              exact ⟨rfl, bthen HW8.out (bthen HB10.out (bthen HB12.out (bthen HB13.out (bthen HB14.out HB15.out))))⟩
end Go.Proofs.YtcfbgelhggapjaaGreatDoor
/- ReplicaMeets returns true for every input, and each argument reads afterwards as it read before. No condition but the row's own: the variable holds what the program's text lays. -/
namespace Go.Proofs.YtcfbgelhggapjaaGreatDoor
open Go.ChangeShapes Go.WideShapes Go.ChangeAt Go.RowKit
theorem meets_reads (os : Os) {H : Type} (enc : TypeId × Value → H) : ∃ places, DataW.whole enc Tryz.prog ((laidWorld os).forCall (fun _ _ => 0) ⟨#[], #[.slice none 0 0, .int .i64 0, .int .i64 0], []⟩).memory Tryz.f8.params.toList Rows.replicaMeetsSpec.vars false ((#[.slice none 0 0, .int .i64 0, .int .i64 0] : Array Value)).toList 8 = some ([.nil, .lit (.int .i64 0), .lit (.int .i64 0)], [], places) :=
  ⟨[], by kernel_rfl⟩
set_option maxHeartbeats 1600000 in
set_option maxRecDepth 100000 in
theorem meets_contract (H : Type) (enc : TypeId × Value → H) (W : World) (base : Nat) (args : Array Value) (ds gs : List (DataW H)) (before : List MemPlace)
    (hval0 : ∀ (j : Nat) t v, Tryz.f8.params[j]? = some t → args[j]? = some v → Value.okWide Tryz.prog W .any base t v)
    (hW : DataW.Whole enc Tryz.prog Tryz.f8.params.toList Rows.replicaMeetsSpec.vars false W args.toList ds gs before) (hL : laidMetH Tryz.prog Rows.replicaMeetsRow.laid W) :
    Calls Tryz.prog 8 args W fun e W' => ∃ v, e = .returned v ∧ Rows.replicaMeetsSpec.post enc Tryz.prog Tryz.f8 false true false false W args v W' := by
  have hR : RL W := rl_of hL
  have hval : ∀ (j : Nat) t v, Tryz.f8.params[j]? = some t → args[j]? = some v → Value.okWide Tryz.prog W .any base t v := hval0
  have hW' := hW
  obtain ⟨p, q, hA0, hV, rfl, hfz, hnd⟩ := hW
  have hA : DataW.TrodAll enc Tryz.prog W 0 (fun _ => true) true Tryz.f8.params.toList args.toList ds p := hA0
  have hA1 := hA
  rw [Tryz.params8] at hA hval
  obtain ⟨v0, v1, v2, d0, d1, d2, p0, p1, p2, rfl, rfl, rfl, h0, h1, h2⟩ := trodAll_three hA
  obtain ⟨rfl, rfl⟩ := trodVars_none hV
  obtain ⟨A0, x0, c0, rfl, hn0, hc0, hw0, hr0⟩ := open_sl4 (hval 0 22 v0 rfl rfl) h0
  obtain ⟨n1, rfl, rfl, rfl, w1⟩ := open_int Tryz.underlying3 (hval 1 3 v1 rfl rfl) h1
  have w1 := wf_of w1
  obtain ⟨n2, rfl, rfl, rfl, w2⟩ := open_int Tryz.underlying3 (hval 2 3 v2 rfl rfl) h2
  have w2 := wf_of w2
  refine (c_Meets A0 x0.length c0 x0 n1 n2 W hR (by omega) hw0 rfl hr0 w1.1 w1.2 w2.1 w2.2).mono fun e W' ⟨he, hB⟩ => ?_
  subst he
  refine ⟨_, rfl, _, _, _, [], _, [], hW', ?_, below_all hB ?_ hA1, rfl, hB.frame _, fun h => by cases h⟩
  · exact trodAll_mk1 (shut_bool Tryz.underlying4 true)
  · rw [Tryz.params8]
    intro t ht
    simp only [List.mem_cons, List.not_mem_nil, or_false] at ht
    rcases ht with rfl | rfl | rfl <;> exact ⟨by kernel_rfl, of_decide_eq_true (by kernel_rfl)⟩
set_option maxRecDepth 100000 in
theorem meets_lifted (os : Os) (started : os.Started) (H : Type) (enc : TypeId × Value → H) (F : Stop.Interp) :
    ReturnsInHanded {} Tryz.checked os 8 .any ((OpenSpec.ofChange Rows.replicaMeetsSpec).preRow enc Tryz.prog Tryz.f8 Rows.replicaMeetsRow.domain false Rows.replicaMeetsRow.laid) (((OpenSpec.ofChange Rows.replicaMeetsSpec).at F).post enc Tryz.prog Tryz.f8 false true false false) := by
  obtain ⟨places, hx⟩ := meets_reads os enc
  refine returnsInHanded_of_row (C := Tryz.checked) (s := OpenSpec.ofChange Rows.replicaMeetsSpec) Tryz.own started (by kernel_rfl) Tryz.func8
    (witness_row_at (enc := enc) (C := Tryz.checked) false (laidWorld os) #[.slice none 0 0, .int .i64 0, .int .i64 0] rfl (by kernel_rfl) (by kernel_rfl) (by kernel_rfl)
      (OpenSpec.preRow_of_cond 8 hx (by kernel_rfl) (fun k hk => by cases hk) (by kernel_rfl) (laid_met os _))) ?_
  intro W base args ds gs before hval hW _ _ _ hL _ _
  exact meets_contract H enc W base args ds gs before hval hW hL
/-- ReplicaMeets: whatever the input, true; the input reads as it did. -/
theorem meets_said : Rows.ReplicaMeetsSaid :=
  OpenClaim.holds_of_cond 8 Tryz.f8 rfl rfl rfl rfl rfl rfl rfl ⟨rfl, rfl, rfl, rfl, rfl⟩ rfl rfl rfl rfl rfl (by kernel_rfl) Tryz.func8 (by kernel_rfl)
    (of_decide_eq_true (by kernel_rfl)) (by unfold Func.isWrapper; first | (rw [if_pos (by decide +kernel)]; kernel_rfl) | (rw [if_neg (by decide +kernel)]; exact ⟨rfl, rfl⟩))
    (fun os started H enc _ F => by rw [OpenClaim.pre_eq_preRow]; exact meets_lifted os started H enc F)
/-- no parameter wants a stand-in; the program's own looks are off -/
theorem meets_plain (f : FuncId) (fn : Func) (hf : Tryz.pinned.checked.prog.funcNamed "slatewall/slatewalllaw35.ReplicaMeets" = some f) (hfn : Tryz.pinned.checked.prog.funcs[f]? = some fn) :
    false = Tryz.pinned.checked.prog.looks [] ∧ ∀ (j : Nat) t, fn.params[j]? = some t → Tryz.pinned.checked.prog.wantsStandIn t = false := by
  obtain rfl : f = 8 := Option.some.inj ((show Tryz.prog.funcNamed "slatewall/slatewalllaw35.ReplicaMeets" = some 8 by kernel_rfl).symm.trans hf) |>.symm
  obtain rfl : fn = Tryz.f8 := (Option.some.inj (Tryz.func8.symm.trans hfn)).symm
  refine ⟨by kernel_rfl, fun j t ht => ?_⟩
  rw [Tryz.params8] at ht
  have hm : t ∈ [22, 3, 3] := by simpa using Array.mem_of_getElem? ht
  have hall : ([22, 3, 3].all fun u => !Tryz.prog.wantsStandIn u) = true := by kernel_rfl
  exact (show Tryz.prog.wantsStandIn t = false by simpa using List.all_eq_true.1 hall t hm)
/-- THE CARD of ReplicaMeets. -/
theorem meets_holds : Rows.ReplicaMeetsCardSaid :=
  Claim7.holds_tied_plain_at .later [] _ _ _ _ meets_said (fun _ h => by cases h) (by kernel_rfl) (fun _ h => by cases h) replicaMeets_row_tie rfl ⟨rfl, rfl⟩ (by kernel_rfl) rfl meets_plain (by kernel_rfl)
end Go.Proofs.YtcfbgelhggapjaaGreatDoor
#print axioms Go.Proofs.YtcfbgelhggapjaaGreatDoor.meets_holds
