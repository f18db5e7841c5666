/- Contract: Expand. -/
import Derived.Test.YtncdombfhcfobaaM32
namespace Go.Proofs.Ytncdombfhcfobaa
open Go.RowKit
attribute [local go_sem] Oper.semAt_some
theorem Try.infoPlaced : (Try.prog.info? 62).map (fun i => (i.zero, i.size, i.bytes)) = some (some (.agg #[.slice none 0 0, .int .i64 0, .int .i64 0, .string ⟨#[]⟩]), 4, 56) := by kernel_rfl
/-- are the places on the board, and not too many? -/
def expOk (P : List (Pl × Int)) : Bool := decide (P.length ≤ 200) && P.all (fun q => plB q.1.x q.1.y)
def expB (P : List (Pl × Int)) : List Pl := (P.filter (fun q => decide (q.2 = 1))).map (·.1)
def outY (l : List Yi) : List Yi := l.filter (fun y => decide (y.kind = 1))
def outs (l : List Yi) : List PR := (outY l).map (·.r)
theorem outs_in (l : List Yi) (y : Yi) (h : y.kind = 1) : outs (l ++ [y]) = outs l ++ [y.r] := by simp [outs, outY, h]
theorem outs_no (l : List Yi) (y : Yi) (h : y.kind ≠ 1) : outs (l ++ [y]) = outs l := by simp [outs, outY, h]
theorem outs_len (l : List Yi) : (outs l).length ≤ l.length := by simpa [outs, outY] using List.length_filter_le _ l
theorem flatP_snoc (l : List PR) (s : PR) : (l ++ [s]).flatMap cP = l.flatMap cP ++ cP s := by simp
theorem oneP (s : PR) (u : Value) (h : u ∈ cP s) : u.oneCell' = true := by
  simp only [cP, List.mem_cons, List.not_mem_nil, or_false] at h
  rcases h with rfl | rfl | rfl | rfl <;> rfl
theorem expB_out (xs : List Yi) : expB (xs.map ofY) = (outY xs).map (fun y => (ofY y).1) := by
  unfold expB outY
  rw [List.filter_map, List.map_map]
  rfl
theorem expOk_bad1 {P : List (Pl × Int)} {pre : List Yi} {y : Yi} (h : (pre ++ [y]).map ofY <+: P) (hb : plB y.r.x y.r.y = false) : expOk P = false := by
  obtain ⟨t, rfl⟩ := h
  unfold expOk
  have : ((pre ++ [y]).map ofY ++ t).all (fun q => plB q.1.x q.1.y) = false := by
    simp [List.all_append, ofY, hb]
  rw [this, Bool.and_false]
theorem expOk_bad2 {P : List (Pl × Int)} {pre : List Yi} (h : pre.map ofY <+: P) (hb : 200 < pre.length) : expOk P = false := by
  have := h.length_le
  rw [List.length_map] at this
  unfold expOk
  rw [decide_eq_false (by omega), Bool.false_and]
theorem expOk_good {xs : List Yi} (h : xs.length ≤ 200) (hb : ∀ y ∈ xs, plB y.r.x y.r.y = true) : expOk (xs.map ofY) = true := by
  unfold expOk
  simp only [Bool.and_eq_true, decide_eq_true_eq, List.length_map, List.all_map, List.all_eq_true]
  exact ⟨h, hb⟩
theorem Pls.of (W : World) (n1 : Nat) : ∀ l : List Yi, (∀ y ∈ l, GY n1 y W) → Pls W (l.map (·.r)) (l.map fun y => (ofY y).1) := fun l h => by
  refine ⟨by simp, fun k h1 h2 => ?_⟩
  have hk : k < l.length := by simpa using h1
  simp only [List.getElem_map]
  have hy := h l[k] (List.getElem_mem hk)
  obtain ⟨q1, q2, q3⟩ := own_row (by have := hy.1; rw [← hy.2] at this; exact this)
  exact ⟨⟨rfl, rfl, rfl⟩, q1, q2, q3⟩
theorem Kee.setCell {n0 n1 : Nat} (A : World) (p : Addr) (u : Value) (h : n0 ≤ p.block) (h1 : p.block < n1) : Kee n0 n1 A (A.setCell p u) :=
  ⟨(Below.refl n0 A).setCell h u, fun k o hk ha _ => (Below.heap_setCell A p u k (by omega)).trans ha⟩
theorem Kee.grownP {n0 n1 b n k : Nat} {W W' : World} {v : Value} {xs : List Value} (h : W.ownsRow b 62 k v n xs) (hg : W.grownBy W' v.ownBlock) (hn : n0 ≤ b) (hb : n0 ≤ W.heap.size) : Kee n0 n1 W W' := by
  refine ⟨(Below.refl n0 W).grown hg hb (fun j e => by have := (own_lt h j e).1; omega), fun j o hj ha hp => ?_⟩
  refine (hg.block j (Array.getElem?_eq_some_iff.1 ha).1 (fun e => ?_)).trans ha
  rcases h.2 with ⟨rfl, _⟩ | ⟨g, c', cur, rfl, _, q3, _⟩
  · cases e
  · simp only [Value.ownBlock, Option.some.injEq] at e
    subst e
    rw [q3] at ha
    injection ha with ha
    subst ha
    simp [plainO] at hp
theorem Blk.ne {W : World} {g g' : Nat} {t t' : TypeId} {cs cs' : List Value} (h : Blk W g t cs) (h' : Blk W g' t' cs') (ht : t ≠ t' := by decide) : g ≠ g' := by
  rintro rfl
  unfold Blk at h h'
  rw [h] at h'
  injection h' with h'
  injection h' with _ h2
  exact ht h2
theorem own_neO {W : World} {b n k bc : Nat} {t : TypeId} {v : Value} {xs us : List Value} {e : TypeId} (h : W.ownsRow b e k v n xs) (hb : Blk W bc t us) (hn : bc < b ∨ e ≠ t) : v.ownBlock ≠ some bc := by
  intro hj
  rcases hn with hn | hn
  · have := (own_lt h _ hj).1; omega
  · exact own_neX h hb hn hj
theorem RdK.blk {n0 n1 g k n : Nat} {W : World} {t : TypeId} {cs : List Value} (h : Blk W g t cs) (hl : cs.length = n * k) (hg : n1 ≤ g) (ht : t ≠ 62 := by decide) : RdK n0 n1 W k (some ⟨g, 0, none⟩) n cs :=
  ⟨h.slr hl, fun _ p hp => by cases hp; exact .inr ⟨hg, _, h, by simpa [plainO] using ht⟩⟩
def ExpandPost (ms : List Mo) (c : Cp) (w : World) (e : Ending) (w' : World) : Prop :=
  Below w.heap.size w w' ∧ ((validCopyB ms c = false ∧ e = .returned (.tuple #[.slice none 0 0, .int .i64 140])) ∨
    ∃ s, validCopyB ms c = true ∧ SortOf (madeM ms c) s ∧ ((expOk (plc ms 13 s [c.code] c.x c.y) = false ∧ e = .returned (.tuple #[.slice none 0 0, .int .i64 140])) ∨
      (expOk (plc ms 13 s [c.code] c.x c.y) = true ∧ ∃ A n d rows, e = .returned (.tuple #[.slice A n d, .int .i64 0]) ∧ n ≤ d ∧ d ≤ 9223372036854775807 ∧ SlR w' w'.heap.size 4 A n (rows.flatMap cP) ∧ Pls w' rows (expB (plc ms 13 s [c.code] c.x c.y)))))
/-- what the range runs over -/
def ExCut (n0 n1 : Nat) (ms : List Mo) (rows : List MR) (A : Option Addr) (N cc : Nat) (c : Cp) (w6 : World) (v : Value) (wx : World) : Prop :=
  ∃ (s : List It) (Ai Ap : Option Addr) (ni ci ep b : Nat), v = .func (.func 66) #[] #[.pointer (some ⟨b + 1, 0, none⟩), .pointer (some ⟨b + 1 + 1, 0, none⟩), .pointer (some ⟨b + 1 + 1 + 1, 0, none⟩), .pointer (some ⟨b, 0, none⟩)] ∧ SortOf (madeM ms c) s ∧
    PlMem n0 n1 ms rows A N cc s [c.code] c.x c.y Ai Ap ni ci 1 ep (b + 1) (b + 1 + 1) (b + 1 + 1 + 1) b wx ∧ Below w6.heap.size w6 wx
/-- between two rounds of Expand's loop -/
def ExI (n0 n1 b4 b5 b6 b7 : Nat) (w : World) (pre : List Yi) (W : World) : Prop :=
  ∃ v v4 v5, Blk W b6 57 [v] ∧ W.ownsRow n1 62 4 v (outs pre).length ((outs pre).flatMap cP) ∧ Blk W b7 3 [.int .i64 pre.length] ∧ Blk W b4 57 [v4] ∧ Blk W b5 29 [v5] ∧ (∀ y ∈ pre, GY n1 y W ∧ plB y.r.x y.r.y = true) ∧ pre.length ≤ 200 ∧ Below n0 w W
def ExX (n0 b4 b5 : Nat) (w : World) (P : List (Pl × Int)) (W : World) : Prop :=
  (Blk W b4 57 [.slice none 0 0] ∧ Blk W b5 29 [.int .i64 140] ∧ Below n0 w W) ∧ expOk P = false
theorem ExI.non {n0 n1 b4 b5 b6 b7 B : Nat} {w X Y : World} {pre : List Yi} {row : Option Nat} (h : ExI n0 n1 b4 b5 b6 b7 w pre X) (hg : X.grownBy Y row) (hr : ∀ r, row = some r → B ≤ r ∧ ∃ o : Obj, X.heap[r]? = some o ∧ o.isCells = false) (hB : n0 ≤ B) (hX : n0 ≤ X.heap.size) : ExI n0 n1 b4 b5 b6 b7 w pre Y := by
  obtain ⟨v, v4, v5, h1, h2, h3, h4, h5, h6, h7, h8⟩ := h
  have hr' := fun r e => (hr r e).2
  exact ⟨v, v4, v5, h1.non hg hr', own_non h2 hg hr', h3.non hg hr', h4.non hg hr', h5.non hg hr', fun y hy => ⟨⟨own_non (h6 y hy).1.1 hg hr', (h6 y hy).1.2⟩, (h6 y hy).2⟩, h7, h8.grown hg hX (fun k e => Nat.le_trans hB (hr k e).1)⟩
/-- the frame of a round -/
def frEx (b4 b5 b6 b7 Bx : Nat) (kind : Int) (u0 u1 u2 u3 u10 u11 u12 u13 u14 u15 u16 u17 u18 u19 u20 u21 u22 u23 u24 u25 u26 u27 u28 u29 u30 u31 u32 u33 u34 u35 u36 u37 u38 u39 u40 u41 u42 : Value) : Act :=
  { tmps := #[u0, u1, u2, u3, .pointer (some ⟨b4, 0, none⟩), .pointer (some ⟨b5, 0, none⟩), .pointer (some ⟨b6, 0, none⟩), .pointer (some ⟨b7, 0, none⟩), .pointer (some ⟨Bx, 0, none⟩), .int .i64 kind, u10, u11, u12, u13, u14, u15, u16, u17, u18, u19, u20, u21, u22, u23, u24, u25, u26, u27, u28, u29, u30, u31, u32, u33, u34, u35, u36, u37, u38, u39, u40, u41, u42], defers := [] }
def AxEx (n1 b4 b5 b6 b7 : Nat) (y : Yi) (a : Act) (W : World) : Prop :=
  ∃ (Bx : Nat) (u0 u1 u2 u3 u10 u11 u12 u13 u14 u15 u16 u17 u18 u19 u20 u21 u22 u23 u24 u25 u26 u27 u28 u29 u30 u31 u32 u33 u34 u35 u36 u37 u38 u39 u40 u41 u42 : Value), a = frEx b4 b5 b6 b7 Bx y.kind u0 u1 u2 u3 u10 u11 u12 u13 u14 u15 u16 u17 u18 u19 u20 u21 u22 u23 u24 u25 u26 u27 u28 u29 u30 u31 u32 u33 u34 u35 u36 u37 u38 u39 u40 u41 u42 ∧ Blk W Bx 62 (cP y.r) ∧ GY n1 y W
set_option linter.unusedSimpArgs false in
set_option maxRecDepth 100000 in
set_option maxHeartbeats 8000000 in
theorem c_Expand (A : Option Addr) (N cc : Nat) (rows : List MR) (ms : List Mo) (r : CR) (c : Cp) (w : World) (hN : N ≤ 9223372036854775807) (hr : SlR w w.heap.size 2 A N (rows.flatMap cM)) (hm : Mods w rows ms) (h : CpR w r c) :
    Calls Try.prog 21 #[.slice A N cc, crV r] w (ExpandPost ms c w) := by
  obtain ⟨i2, hi2, hz0, hz1, hz2⟩ := info_parts Try.infoPlaced
  have hb0 := balloc (balloc (balloc (Below.refl w.heap.size w) (.cells #[.int .i64 r.code, .int .i64 r.mod, .int .i64 r.x, .int .i64 r.y, .slice r.a r.n r.c, .slice r.a2 r.n2 r.c2] 45)) (.cells #[.slice none 0 0] 57)) (.cells #[.int .i64 0] 29)
  have gC := ((Blk.new w 45 (cC r)).alloc (.cells #[.slice none 0 0] 57)).alloc (.cells #[.int .i64 0] 29)
  have g4 := (Blk.new (w.alloc (.cells (cC r).toArray 45)) 57 [.slice none 0 0]).alloc (.cells #[.int .i64 0] 29)
  have g5 := Blk.new ((w.alloc (.cells (cC r).toArray 45)).alloc (.cells #[.slice none 0 0] 57)) 29 [.int .i64 0]
  simp only [World.size_alloc] at g4 g5
  have hk0 := c_ValidCopy A N cc rows ms r c _ hN (hr.to' hb0) (hm.to hb0) (h.to hb0)
  have hmk : ModK w.heap.size w rows ms := ⟨hm.1, hm.2⟩
  have HM := hide (And.intro hr (And.intro hmk h))
  clear hr hm h hmk
  refine callsIn_wide.1 (callsIn_of_wp_marks (n := 5) Try.func21 rfl trivial ?_ rfl)
  unfold crV
  simp only [Try.ntmps21, List.size_toArray, List.length_cons, List.length_nil, Nat.reduceAdd, Nat.reduceSub, Array.replicate_succ, Array.replicate_zero, List.push_toArray, List.append_toArray, List.nil_append, List.cons_append]
  refine wpIn_wide.2 ?_
  go_wp2_with fail
  refine hk0.mono ?_
  clear hk0
  rintro e w4 ⟨rfl, hb4⟩
  have hb04 := bthen hb0 hb4
  have gC4 := gC.below hb4 gC.lt
  have g44 := g4.below hb4 g4.lt
  have g54 := g5.below hb4 g5.lt
  obtain ⟨r0, r1⟩ := g44.all1
  obtain ⟨e0, e1⟩ := g54.all1
  have hl4 := g44.lt
  have hl5 := g54.lt
  clear hb0 hb4 gC g4 g5
  cases hv : validCopyB ms c with
  | false =>
    have HV := hide hv
    clear hv
    have g44' := (g44.set 0 (.slice none 0 0)).other (p := ⟨w.heap.size + 1 + 1, 0, none⟩) (by simp) (.int .i64 140)
    have g54' := (g54.other (p := ⟨w.heap.size + 1, 0, none⟩) (by simp) (.slice none 0 0)).set 0 (.int .i64 140)
    obtain ⟨r2, -⟩ := g44'.all1
    obtain ⟨e2, -⟩ := g54'.all1
    go_wp2
    exact ⟨.tuple #[.slice none 0 0, .int .i64 140], by simp [results, Try.results21, go_sem, r2, e2], bset (bset hb04 (p := ⟨w.heap.size + 1, 0, none⟩) (by simp) _) (p := ⟨w.heap.size + 1 + 1, 0, none⟩) (by simp; omega) _, .inl ⟨HV.out, rfl⟩⟩
  | true =>
    have HV := hide hv
    clear hv
    go_upto_region 5 with (fail)
    have g6 := (Blk.new w4 57 [.slice none 0 0]).alloc (.cells #[.int .i64 0] 3)
    have g7 := Blk.new (w4.alloc (.cells #[.slice none 0 0] 57)) 3 [.int .i64 0]
    simp only [World.size_alloc] at g7
    have hb46 := balloc (balloc (Below.refl w4.heap.size w4) (.cells #[.slice none 0 0] 57)) (.cells #[.int .i64 0] 3)
    have hs46 : w4.heap.size + 1 < ((w4.alloc (.cells #[.slice none 0 0] 57)).alloc (.cells #[.int .i64 0] 3)).heap.size := by simp
    have hb06 := bthen hb04 hb46
    generalize hw6 : (w4.alloc (.cells #[.slice none 0 0] 57)).alloc (.cells #[.int .i64 0] 3) = w6 at *
    clear hw6
    have gC6 := gC4.below hb46 gC4.lt
    have g46 := g44.below hb46 g44.lt
    have g56 := g54.below hb46 g54.lt
    have hs04 := hb04.size
    obtain ⟨hvv, hcp, -, -⟩ := vc_parts HV.out
    obtain ⟨hll1, hll2⟩ := validCopy_len HV.out
    have HLL := hide (And.intro hll1 hll2)
    have hcpp := cpOk_parts hcp
    have HCP := hide (And.intro hvv hcpp)
    clear r0 r1 e0 e1 hl4 gC4 g44 g54 hvv hcp hll1 hll2 hcpp
    go_cut [23] from 14 to 23 (fun v wx => ExCut w.heap.size w6.heap.size ms rows A N cc c w6 v wx)
    case first =>
      have hS := fun (U : World) (h : Below w6.heap.size w6 U) => (gC6.below h gC6.lt).allC
      have HS := hide hS
      have hfin : ∀ (wB : World) (v : Value) (s : List It) (g : Nat), Below w6.heap.size w6 wB → SortOf (madeM ms c) s → wB.ownsRow w6.heap.size 36 6 v s.length (s.flatMap cI) → Blk wB g 3 [.int .i64 r.code] → w6.heap.size ≤ g →
          ∃ Ai ci, v = .slice Ai s.length ci ∧ ∀ wx, wx = (((wB.alloc (.cells #[.slice A N cc] 42)).alloc (.cells #[.slice Ai s.length ci] 24)).alloc (.cells #[.slice (some ⟨g, 0, none⟩) 1 1] 28)).alloc (.cells #[.int .i64 r.x, .int .i64 r.y] 34) →
            ExCut w.heap.size w6.heap.size ms rows A N cc c w6 (.func (.func 66) #[] #[.pointer (some ⟨wB.heap.size + 1, 0, none⟩), .pointer (some ⟨wB.heap.size + 1 + 1, 0, none⟩), .pointer (some ⟨wB.heap.size + 1 + 1 + 1, 0, none⟩), .pointer (some ⟨wB.heap.size, 0, none⟩)]) wx := by
        intro wB v s g hbB hso ho hg hge
        obtain ⟨Ai, ci, rfl, q1, q2, -⟩ := SlR.of_own ho
        refine ⟨Ai, ci, rfl, fun wx hx => ?_⟩
        obtain ⟨⟨e1, e2, e3, e4⟩, -, -⟩ := HM.out.2.2
        have hbx : Below wB.heap.size wB wx := by rw [hx]; exact balloc (balloc (balloc (balloc (Below.refl _ _) _) _) _) _
        have k0 : Blk wx wB.heap.size 42 [.slice A N cc] := by rw [hx]; exact (((Blk.new wB 42 [.slice A N cc]).alloc _).alloc _).alloc _
        have k1 : Blk wx (wB.heap.size + 1) 24 [.slice Ai s.length ci] := by
          rw [hx]
          have := ((Blk.new (wB.alloc (.cells #[.slice A N cc] 42)) 24 [.slice Ai s.length ci]).alloc (.cells #[.slice (some ⟨g, 0, none⟩) 1 1] 28)).alloc (.cells #[.int .i64 r.x, .int .i64 r.y] 34)
          simpa using this
        have k2 : Blk wx (wB.heap.size + 1 + 1) 28 [.slice (some ⟨g, 0, none⟩) 1 1] := by
          rw [hx]
          have := (Blk.new ((wB.alloc (.cells #[.slice A N cc] 42)).alloc (.cells #[.slice Ai s.length ci] 24)) 28 [.slice (some ⟨g, 0, none⟩) 1 1]).alloc (.cells #[.int .i64 r.x, .int .i64 r.y] 34)
          simpa using this
        have k3 : Blk wx (wB.heap.size + 1 + 1 + 1) 34 [.int .i64 c.x, .int .i64 c.y] := by
          rw [hx, ← e3, ← e4]
          have := Blk.new (((wB.alloc (.cells #[.slice A N cc] 42)).alloc (.cells #[.slice Ai s.length ci] 24)).alloc (.cells #[.slice (some ⟨g, 0, none⟩) 1 1] 28)) 34 [.int .i64 r.x, .int .i64 r.y]
          simpa using this
        have hz := hbB.size
        have hox := own_bel ho hbx
        have hgx := hg.below hbx hg.lt
        have hbw : Below w.heap.size w wx := bthen (bthen hb06 hbB) hbx
        rw [e1] at hgx
        have hn0 : w.heap.size ≤ w6.heap.size := by omega
        exact ⟨s, Ai, some ⟨g, 0, none⟩, s.length, ci, 1, wB.heap.size, rfl, hso, ⟨⟨by omega, by omega, by omega, by omega⟩, ⟨k1, k2, k3, k0⟩, ⟨RdK.own hox (Nat.le_refl _), RdK.blk hgx rfl hge, HM.out.1.below hbw, HM.out.2.1.below hbw⟩, ⟨by simp only [maxLen] at q2; omega, Nat.le_refl _, by omega⟩⟩, bthen hbB hbx⟩
      have HFin := hide hfin
      clear hfin hS
      obtain ⟨ss0, ss1, ss2, ss3, ss4, ss5⟩ := gC6.allC
      have hcl := gC6.lt
      have hz6 := hb06.size
      refine wp_noexit ?_
      refine wp_region_held_drew (S := fun U => U.cell? ⟨w.heap.size, 0, none⟩ = some (.int .i64 r.code) ∧ U.cell? ⟨w.heap.size, 1, none⟩ = some (.int .i64 r.mod) ∧ U.cell? ⟨w.heap.size, 2, none⟩ = some (.int .i64 r.x) ∧ U.cell? ⟨w.heap.size, 3, none⟩ = some (.int .i64 r.y) ∧ U.cell? ⟨w.heap.size, 4, none⟩ = some (.slice r.a r.n r.c) ∧ U.cell? ⟨w.heap.size, 5, none⟩ = some (.slice r.a2 r.n2 r.c2)) (by kernel_rfl) (HS.out _ (bdrew (Below.refl _ _))) (fun hHeld => ?_)
      clear ss0 ss1 ss2 ss3 ss4 ss5
      refine wpAnyH_take (i := 0) (v := ?_) rfl (by kernel_rfl) (by kernel_rfl) (by kernel_rfl) (fun _ _ _ h => h) (Or.inl ⟨by rfl, ?hy1⟩) (by assumption) ?rs1
      case hy1 => (intro w hSw; (try dsimp only at hSw); go_simp; try (with_reducible rfl))
      (try simp only [Act.put, List.setIfInBounds_toArray, List.set_cons_zero, List.set_cons_succ, List.getElem_toArray, List.getElem_cons_zero, List.getElem_cons_succ])
      refine wpAnyH_take (i := 1) (v := ?_) rfl (by kernel_rfl) (by kernel_rfl) (by kernel_rfl) (fun _ _ _ h => h) (Or.inl ⟨by rfl, ?hy2⟩) (by assumption) ?rs2
      case hy2 => (intro w hSw; (try dsimp only at hSw); go_simp; try (with_reducible rfl))
      (try simp only [Act.put, List.setIfInBounds_toArray, List.set_cons_zero, List.set_cons_succ, List.getElem_toArray, List.getElem_cons_zero, List.getElem_cons_succ])
      refine wpAnyH_take (i := 2) (v := ?_) rfl (by kernel_rfl) (by kernel_rfl) (by kernel_rfl) (fun _ _ _ h => h) (Or.inl ⟨by rfl, ?hy3⟩) (by assumption) ?rs3
      case hy3 => (intro w hSw; (try dsimp only at hSw); go_simp; try (with_reducible rfl))
      (try simp only [Act.put, List.setIfInBounds_toArray, List.set_cons_zero, List.set_cons_succ, List.getElem_toArray, List.getElem_cons_zero, List.getElem_cons_succ])
      refine wpAnyH_take (i := 4) (v := ?_) rfl (by kernel_rfl) (by kernel_rfl) (by kernel_rfl) (fun _ _ _ h => h) (Or.inl ⟨by rfl, ?hy4⟩) (by assumption) ?rs4
      case hy4 => (intro w hSw; (try dsimp only at hSw); go_simp; try (with_reducible rfl))
      (try simp only [Act.put, List.setIfInBounds_toArray, List.set_cons_zero, List.set_cons_succ, List.getElem_toArray, List.getElem_cons_zero, List.getElem_cons_succ])
      refine wpAnyH_take (i := 5) (v := ?_) rfl (by kernel_rfl) (by kernel_rfl) (by kernel_rfl) (fun _ _ _ h => h) (Or.inl ⟨by rfl, ?hy5⟩) (by assumption) ?rs5
      case hy5 => (intro w hSw; (try dsimp only at hSw); go_simp; try (with_reducible rfl))
      (try simp only [Act.put, List.setIfInBounds_toArray, List.set_cons_zero, List.set_cons_succ, List.getElem_toArray, List.getElem_cons_zero, List.getElem_cons_succ])
      refine wpAnyH_take (i := 7) (v := ?_) rfl (by kernel_rfl) (by kernel_rfl) (by kernel_rfl) (fun _ _ _ h => h) (Or.inl ⟨by rfl, ?hy6⟩) (by assumption) ?rs6
      case hy6 => (intro w hSw; (try dsimp only at hSw); go_simp; try (with_reducible rfl))
      (try simp only [Act.put, List.setIfInBounds_toArray, List.set_cons_zero, List.set_cons_succ, List.getElem_toArray, List.getElem_cons_zero, List.getElem_cons_succ])
      refine wpAnyH_take (i := 8) (v := ?_) rfl (by kernel_rfl) (by kernel_rfl) (by kernel_rfl) (fun _ _ _ h => h) (Or.inl ⟨by rfl, ?hy7⟩) (by assumption) ?rs7
      case hy7 => (intro w hSw; (try dsimp only at hSw); go_simp; try (with_reducible rfl))
      (try simp only [Act.put, List.setIfInBounds_toArray, List.set_cons_zero, List.set_cons_succ, List.getElem_toArray, List.getElem_cons_zero, List.getElem_cons_succ])
      refine wpAnyH_ready (rs := [3, 6]) (by kernel_rfl) (by simp) ?_
      refine AllReadyH.cons rfl (fun K hK => ?_) ?_
      · go_simp
        have hbd : Below w.heap.size w w6.drew := bdrew hb06
        refine (c_made A N cc rows ms r c _ hN (HM.out.1.to' hbd) (by have := HM.out.2.1.below hbd; exact this.mods hbd.size) (HM.out.2.2.to hbd) (by have := HLL.out; omega)).mono ?_
        rintro e x1 ⟨v, s, rfl, hso, ho, hc1⟩
        have hb1 : Below w6.heap.size w6 x1 := bthen (bdrew (Below.refl _ _)) hc1
        have ho1 : x1.ownsRow w6.heap.size 36 6 v s.length (s.flatMap cI) := ho
        have HO := hide (And.intro hso ho1)
        clear hso ho ho1 hbd
        have hz1 := hb1.size
        refine hK.out _ _ (by exact (HS.out _ hb1)) (fun hHeld => ?_)
        clear hK K
        (try simp only [Act.put, List.setIfInBounds_toArray, List.set_cons_zero, List.set_cons_succ, List.getElem_toArray, List.getElem_cons_zero, List.getElem_cons_succ])
        refine wpAnyH_ready (rs := [6]) (by kernel_rfl) (by simp) ?_
        refine AllReadyH.cons rfl (fun K hK => ?_) ?_
        · go_simp
          refine hK.out _ _ (by exact (HS.out _ (balloc hb1 (.cells #[.int .i64 r.code] 3)))) (fun hHeld => ?_)
          clear hK K
          (try simp only [Act.put, List.setIfInBounds_toArray, List.set_cons_zero, List.set_cons_succ, List.getElem_toArray, List.getElem_cons_zero, List.getElem_cons_succ])
          have hfin := HFin.out _ v s x1.heap.size (balloc hb1 (.cells #[.int .i64 r.code] 3)) HO.out.1 (HO.out.2.alloc _) (Blk.new x1 3 [.int .i64 r.code]) hz1
          obtain ⟨Ai, ci, rfl, hfin⟩ := hfin
          have HF1 := hide hfin
          clear hfin
          refine wpAnyH_ready (rs := [9]) (by kernel_rfl) (by simp) ?_
          refine AllReadyH.cons rfl (fun K hK => ?_) ?_
          · go_simp
            refine (c_placed A Ai (some ⟨x1.heap.size, 0, none⟩) N cc s.length ci 1 1 r.x r.y _).mono ?_
            rintro e x2 ⟨rfl, hx2⟩
            have hb2 : Below w6.heap.size w6 x2 := by rw [hx2]; exact balloc (balloc (balloc (balloc (balloc hb1 _) _) _) _) _
            refine hK.out _ _ (by exact (HS.out _ hb2)) (fun hHeld => ?_)
            clear hK K
            (try simp only [Act.put, List.setIfInBounds_toArray, List.set_cons_zero, List.set_cons_succ, List.getElem_toArray, List.getElem_cons_zero, List.getElem_cons_succ])
            refine wpAnyH_done (by kernel_rfl) ?_ _
            have hE := HF1.out x2 hx2
            clear hx2
            go_wp2_with fail
            go_meet
            exact hE
          exact AllReadyH.nil
        exact AllReadyH.nil
      refine AllReadyH.cons rfl (fun K hK => ?_) ?_
      · go_simp
        refine hK.out _ _ (by exact (HS.out _ (balloc (bdrew (Below.refl _ _)) (.cells #[.int .i64 r.code] 3)))) (fun hHeld => ?_)
        clear hK K
        (try simp only [Act.put, List.setIfInBounds_toArray, List.set_cons_zero, List.set_cons_succ, List.getElem_toArray, List.getElem_cons_zero, List.getElem_cons_succ])
        have hbd : Below w.heap.size w ((w6.drew).alloc (.cells #[.int .i64 r.code] 3)) := balloc (bdrew hb06) _
        have hk := Blk.new w6.drew 3 [.int .i64 r.code]
        have hbe := balloc (bdrew (Below.refl w6.heap.size w6)) (.cells #[.int .i64 r.code] 3)
        refine wpAnyH_ready (rs := [3]) (by kernel_rfl) (by simp) ?_
        refine AllReadyH.cons rfl (fun K hK => ?_) ?_
        · go_simp
          refine (c_made A N cc rows ms r c _ hN (HM.out.1.to' hbd) (by have := HM.out.2.1.below hbd; exact this.mods hbd.size) (HM.out.2.2.to hbd) (by have := HLL.out; omega)).mono ?_
          rintro e x1 ⟨v, s, rfl, hso, ho, hc1⟩
          have hb1 : Below w6.heap.size w6 x1 := bthen hbe hc1
          have ho1 : x1.ownsRow w6.heap.size 36 6 v s.length (s.flatMap cI) := own_base ho hbe.size
          have hk1 := hk.below hc1 hk.lt
          have hfin := HFin.out _ v s w6.heap.size hb1 hso ho1 hk1 (Nat.le_refl _)
          obtain ⟨Ai, ci, rfl, hfin⟩ := hfin
          have HF1 := hide hfin
          clear hso ho ho1 hbd hfin hk1 hk
          have hz1 := hb1.size
          refine hK.out _ _ (by exact (HS.out _ hb1)) (fun hHeld => ?_)
          clear hK K
          (try simp only [Act.put, List.setIfInBounds_toArray, List.set_cons_zero, List.set_cons_succ, List.getElem_toArray, List.getElem_cons_zero, List.getElem_cons_succ])
          refine wpAnyH_ready (rs := [9]) (by kernel_rfl) (by simp) ?_
          refine AllReadyH.cons rfl (fun K hK => ?_) ?_
          · go_simp
            refine (c_placed A Ai (some ⟨w6.heap.size, 0, none⟩) N cc s.length ci 1 1 r.x r.y _).mono ?_
            rintro e x2 ⟨rfl, hx2⟩
            have hb2 : Below w6.heap.size w6 x2 := by rw [hx2]; exact balloc (balloc (balloc (balloc hb1 _) _) _) _
            refine hK.out _ _ (by exact (HS.out _ hb2)) (fun hHeld => ?_)
            clear hK K
            (try simp only [Act.put, List.setIfInBounds_toArray, List.set_cons_zero, List.set_cons_succ, List.getElem_toArray, List.getElem_cons_zero, List.getElem_cons_succ])
            refine wpAnyH_done (by kernel_rfl) ?_ _
            have hE := HF1.out x2 hx2
            clear hx2
            go_wp2_with fail
            go_meet
            exact hE
          exact AllReadyH.nil
        exact AllReadyH.nil
      exact AllReadyH.nil
    case rest =>
      obtain ⟨w7, rfl⟩ : ∃ W : World, W = wc := ⟨_, rfl⟩
      obtain ⟨s, Ai, Ap, ni, ci, ep, b, rfl, hso, hpm, hb67⟩ := hcut
      have g67 := g6.below hb67 g6.lt
      have g77 := g7.below hb67 g7.lt
      have g47 := g46.below hb67 g46.lt
      have g57 := g56.below hb67 g56.lt
      have hs67 := hb67.size
      have hb07 : Below w.heap.size w w7 := bthen hb06 hb67
      have hs6 := hb06.size
      have hl67 := g6.lt
      have hl77 := g7.lt
      have hl47 := g46.lt
      have hl57 := g56.lt
      obtain ⟨hok1, hdp⟩ := made_ok HV.out hso
      obtain ⟨hvv, hcp1, hcp2, ⟨c1, c2, c3, c4⟩, hcp3, -⟩ := HCP.out
      have hseq := placed_seq 5 w.heap.size w6.heap.size hs6 (by omega) ms rows A N cc hN (fun k t ht => (itOk_parts ((itsOk_parts (itemsOf_ok hvv k)).2.2.2 t ht)).1) 13 s [c.code] c.x c.y hdp (fun t ht => (itOk_parts (hok1 t ht)).1) ⟨c1, c3, by omega, by omega⟩ (by simp) Ai Ap ni ci 1 ep (b + 1) (b + 1 + 1) (b + 1 + 1 + 1) b w7 hpm
      have HSEQ := hide hseq
      have HSO := hide hso
      clear hseq hpm hso hok1 hdp hvv hcp1 hcp2 hcp3 gC6 g46 g56 g6 g7
      go_wp2_with fail
      have hn07 : w.heap.size ≤ w7.heap.size := by omega
      obtain ⟨b4, hb4e⟩ : ∃ x, x = w.heap.size + 1 := ⟨_, rfl⟩
      obtain ⟨b5, hb5e⟩ : ∃ x, x = w.heap.size + 1 + 1 := ⟨_, rfl⟩
      obtain ⟨b6, hb6e⟩ : ∃ x, x = w4.heap.size := ⟨_, rfl⟩
      obtain ⟨b7, hb7e⟩ : ∃ x, x = w4.heap.size + 1 := ⟨_, rfl⟩
      obtain ⟨n1, hn1⟩ : ∃ x, x = w6.heap.size := ⟨_, rfl⟩
      have HEQ := hide (show w.heap.size ≤ b4 ∧ b4 < b5 ∧ b5 < b6 ∧ b6 < b7 ∧ b7 < n1 ∧ n1 ≤ w7.heap.size from ⟨by omega, by omega, by omega, by omega, by omega, by omega⟩)
      simp only [← hn1] at HSEQ
      rw [← hb5e, ← hb4e, ← hb7e, ← hb6e]
      rw [← hb6e] at g67
      rw [← hb7e] at g77
      rw [← hb4e] at g47
      rw [← hb5e] at g57
      clear hl5 hb4e hb5e hb6e hb7e hn1 hs46 hl67 hl77 hl47 hl57 hs67 hs6 hs04 hb46 hb06 hb67
      generalize hP : plc ms 13 s [c.code] c.x c.y = P at *
      obtain ⟨z1, z2, z3, z4, z5, z6⟩ := HEQ.out
      refine (wpIn_wide (n := 6)).1 (range_G (α := Yi) rfl (by omega) (gf := 66) (lb := #[.pointer (some ⟨b + 1, 0, none⟩), .pointer (some ⟨b + 1 + 1, 0, none⟩), .pointer (some ⟨b + 1 + 1 + 1, 0, none⟩), .pointer (some ⟨b, 0, none⟩)]) rfl trivial (enters_of Try.func66 (by kernel_rfl) rfl)
        hn07 z6 HSEQ.out (Below.refl _ _) (fun _ => rfl) (ExI w.heap.size n1 b4 b5 b6 b7 w) (fun _ X => ExX w.heap.size b4 b5 w P X) ?hI ?hIx ?h0 (AxEx n1 b4 b5 b6 b7) ?hAx ?assign ?body ?done ?stop)
      case hI => exact fun ys X Y row h hg hr => h.non hg hr hn07 (by obtain ⟨_, _, _, _, _, _, _, _, _, _, hb⟩ := h; exact hb.size)
      case hIx => exact fun ys X Y row h hg hr => ⟨⟨h.1.1.non hg (fun r e => (hr r e).2), h.1.2.1.non hg (fun r e => (hr r e).2), h.1.2.2.grown hg h.1.2.2.size (fun k e => Nat.le_trans hn07 (hr k e).1)⟩, h.2⟩
      case h0 => exact ⟨_, _, _, g67, World.ownsRow_nil _ _ _ _, g77, g47, g57, (fun y hy => by cases hy), by simp, hb07⟩
      case hAx =>
        rintro v a' _ X Y row ⟨Bx, u0, u1, u2, u3, u10, u11, u12, u13, u14, u15, u16, u17, u18, u19, u20, u21, u22, u23, u24, u25, u26, u27, u28, u29, u30, u31, u32, u33, u34, u35, u36, u37, u38, u39, u40, u41, u42, ha, hblk, hG1, hG2⟩ hg hr
        exact ⟨Bx, u0, u1, u2, u3, u10, u11, u12, u13, u14, u15, u16, u17, u18, u19, u20, u21, u22, u23, u24, u25, u26, u27, u28, u29, u30, u31, u32, u33, u34, u35, u36, u37, u38, u39, u40, u41, u42, ha, hblk.non hg (fun r e => (hr r e).2), own_non hG1 hg (fun r e => (hr r e).2), hG2⟩
      case assign =>
        intro lp pre' v X K' hIn hG hK'
        simp only [encY]
        gi_wp2
        obtain ⟨v1, v4, v5, k1, k2, k3, k4, k5, k6, k7, k8⟩ := hIn
        have hbX := balloc (Below.refl X.heap.size X) (.cells (cP v.r).toArray 62)
        have hbw := k8.size
        exact hK' _ _ (Kee.of_below (n1 := n1) k8.size hbX) ⟨v1, v4, v5, k1.alloc _, k2.alloc _, k3.alloc _, k4.alloc _, k5.alloc _, fun y hy => ⟨⟨own_bel (k6 y hy).1.1 hbX, (k6 y hy).1.2⟩, (k6 y hy).2⟩, k7, k8.trans (hbX.mono k8.size)⟩ ⟨X.heap.size, _, _, _, _, _, _, _, _, _, _, _, _, _, _, _, _, _, _, _, _, _, _, _, _, _, _, _, _, _, _, _, _, _, _, _, _, _, rfl, Blk.new X 62 (cP v.r), own_bel hG.1 hbX, hG.2⟩
      case body =>
        rintro lp pre' v a' X hlp ⟨rc, hrc⟩ ⟨v1, v4, v5, k1, k2, k3, k4, k5, k6, k7, k8⟩ ⟨Bx, u0, u1, u2, u3, u10, u11, u12, u13, u14, u15, u16, u17, u18, u19, u20, u21, u22, u23, u24, u25, u26, u27, u28, u29, u30, u31, u32, u33, u34, u35, u36, u37, u38, u39, u40, u41, u42, rfl, hblk, hG⟩ hpre
        have n7 := hblk.ne k3
        have n6 := hblk.ne k1
        have n4 := hblk.ne k4
        have n5 := hblk.ne k5
        have e76 := k3.ne k1
        have e75 := k3.ne k5
        have e74 := k3.ne k4
        have e64 : b6 ≠ b4 := by omega
        have e65 := k1.ne k5
        have e45 := k4.ne k5
        have HKK := hide (And.intro k6 (And.intro k8 (And.intro hG hpre)))
        obtain ⟨y0, y1⟩ := k3.all1
        have hl7 := k3.lt
        clear k6 k8 hG hpre
        have hb1 : Below w.heap.size X (X.setCell ⟨b7, 0, none⟩ (.int .i64 ((pre'.length : Int) + 1))) := (Below.refl _ _).setCell (by show w.heap.size ≤ b7; omega) _
        have m7 := k3.set 0 (.int .i64 ((pre'.length : Int) + 1))
        have m6 := k1.other (p := ⟨b7, 0, none⟩) (Ne.symm e76) (.int .i64 ((pre'.length : Int) + 1))
        have m4 := k4.other (p := ⟨b7, 0, none⟩) (Ne.symm e74) (.int .i64 ((pre'.length : Int) + 1))
        have m5 := k5.other (p := ⟨b7, 0, none⟩) (Ne.symm e75) (.int .i64 ((pre'.length : Int) + 1))
        have mb := hblk.other (p := ⟨b7, 0, none⟩) n7 (.int .i64 ((pre'.length : Int) + 1))
        have mo := own_setO k2 (p := ⟨b7, 0, none⟩) (own_neX k2 k3) (.int .i64 ((pre'.length : Int) + 1))
        have hKX := Kee.setCell (n0 := w.heap.size) (n1 := n1) X ⟨b7, 0, none⟩ (.int .i64 ((pre'.length : Int) + 1)) (by show w.heap.size ≤ b7; omega) (by show b7 < n1; omega)
        simp only [List.set_cons_zero] at m7
        obtain ⟨x0, x1, x2, x3⟩ := mb.allP
        have hlb := mb.lt
        unfold frEx
        gi_wp2
        refine ⟨trivial, (CallsIn.inRound lp (callsIn_wide.2 (c_isPlace v.r.x v.r.y _))).mono ?_⟩
        rintro e X2 ⟨rfl, hb2⟩
        have hX1 : w.heap.size ≤ (X.setCell ⟨b7, 0, none⟩ (.int .i64 ((pre'.length : Int) + 1))).heap.size := by have := HKK.out.2.1.size; simp; omega
        have q7 := m7.below hb2 m7.lt
        have q6 := m6.below hb2 m6.lt
        have q5 := m5.below hb2 m5.lt
        have q4 := m4.below hb2 m4.lt
        have qb := mb.below hb2 mb.lt
        have qo := own_bel mo hb2
        have hbX2 : Below w.heap.size w X2 := (HKK.out.2.1.trans hb1).trans (hb2.mono hX1)
        have hw2 : w.heap.size ≤ X2.heap.size := hbX2.size
        have hlpX := (Array.getElem?_eq_some_iff.1 hrc).1
        have hXX2 : X.heap.size ≤ X2.heap.size := by have := hb2.size; simpa using this
        have hGs : ∀ y ∈ pre' ++ [v], GY n1 y X2 := fun y hy => by
          have hy' : GY n1 y X := by
            rcases List.mem_append.1 hy with hy | hy
            · exact (HKK.out.1 y hy).1
            · rw [List.mem_singleton.1 hy]; exact HKK.out.2.2.1
          exact ⟨own_bel (own_setO hy'.1 (p := ⟨b7, 0, none⟩) (own_neO hy'.1 k3 (.inl z5)) _) hb2, hy'.2⟩
        have HGs := hide hGs
        clear hGs y0 y1 x0 x1 x2 x3
        cases hpb : plB v.r.x v.r.y with
        | false =>
          have f4' := q4.set 0 (.slice none 0 0)
          have f4 := f4'.other (p := ⟨b5, 0, none⟩) e45 (.int .i64 140)
          have f5 := (q5.other (p := ⟨b4, 0, none⟩) (Ne.symm e45) (.slice none 0 0)).set 0 (.int .i64 140)
          obtain ⟨a4, c4'⟩ := q4.all1
          obtain ⟨a5, c5'⟩ := q5.all1
          obtain ⟨a7, c7'⟩ := q7.all1
          have l4 := q4.lt
          have l5 := q5.lt
          have l7 := q7.lt
          simp only [List.set_cons_zero] at f4 f5
          gi_wp2
          obtain ⟨k6, k8, hG, hpre⟩ := HKK.out
          exact ⟨(((hKX.up (by omega)).trans (Kee.of_below (n1 := w7.heap.size) hX1 hb2)).trans (Kee.setCell X2 ⟨b4, 0, none⟩ _ z1 (by show b4 < _; omega))).trans (Kee.setCell _ ⟨b5, 0, none⟩ _ (by show _ ≤ b5; omega) (by show b5 < _; omega)), ⟨f4, f5, (hbX2.setCell (by show w.heap.size ≤ b4; omega) _).setCell (by show w.heap.size ≤ b5; omega) _⟩, expOk_bad1 hpre hpb⟩
        | true =>
          by_cases hmany : 200 < pre'.length + 1
          · have hmany' : (200 : Int) < (pre'.length : Int) + 1 := by omega
            have f4' := q4.set 0 (.slice none 0 0)
            have f4 := f4'.other (p := ⟨b5, 0, none⟩) e45 (.int .i64 140)
            have f5 := (q5.other (p := ⟨b4, 0, none⟩) (Ne.symm e45) (.slice none 0 0)).set 0 (.int .i64 140)
            obtain ⟨a4, c4'⟩ := q4.all1
            obtain ⟨a5, c5'⟩ := q5.all1
            obtain ⟨a7, c7'⟩ := q7.all1
            have l4 := q4.lt
            have l5 := q5.lt
            have l7 := q7.lt
            simp only [List.set_cons_zero] at f4 f5
            gi_wp2
            obtain ⟨k6, k8, hG, hpre⟩ := HKK.out
            exact ⟨(((hKX.up (by omega)).trans (Kee.of_below (n1 := w7.heap.size) hX1 hb2)).trans (Kee.setCell X2 ⟨b4, 0, none⟩ _ z1 (by show b4 < _; omega))).trans (Kee.setCell _ ⟨b5, 0, none⟩ _ (by show _ ≤ b5; omega) (by show b5 < _; omega)), ⟨f4, f5, (hbX2.setCell (by show w.heap.size ≤ b4; omega) _).setCell (by show w.heap.size ≤ b5; omega) _⟩, expOk_bad2 hpre (by simp only [List.length_append, List.length_cons, List.length_nil]; omega)⟩
          · have hmany' : ¬ (200 : Int) < (pre'.length : Int) + 1 := by omega
            obtain ⟨a7, c7'⟩ := q7.all1
            obtain ⟨a6, c6'⟩ := q6.all1
            have l7 := q7.lt
            have l6 := q6.lt
            by_cases hk : v.kind = 1
            · have hkb : (v.kind == 1) = true := by simp [hk]
              obtain ⟨x0, x1, x2, x3⟩ := qb.allP
              have lb := qb.lt
              have hlen := outs_len pre'
              have HK1 := hide hk
              clear hk
              have hcell : ∀ (j : Nat) (u : Value), (cP v.r)[j]? = some u → (X2.alloc (.cells (cP v.r).toArray 62)).cell? ((⟨X2.heap.size, 0, none⟩ : Addr).add j) = some u := fun j u hj => by
                have e : (⟨X2.heap.size, 0, none⟩ : Addr).add j = ⟨X2.heap.size, j, none⟩ := by by_cases h0 : j = 0 <;> simp [Addr.add, h0]
                rw [e, (Blk.new X2 62 (cP v.r)).cell j]
                exact hj
              have hcc := hide hcell
              clear hcell
              have hsz3 : n1 ≤ (X2.alloc (.cells (cP v.r).toArray 62)).heap.size := by simp; omega
              have hlen200 : (outs pre').length ≤ 200 := by omega
              gi_wp2_with (gi_at_builtin; refine wpListIn_append_own _ rfl (.tmp 38) (.tmp 40) 57 rfl n1 62 i2 (.agg #[.slice none 0 0, .int .i64 0, .int .i64 0, .string ⟨#[]⟩]) 4 56 (by rfl) hi2 hz0 hz1 hz2 rfl (by decide) v1 (outs pre').length ((outs pre').flatMap cP) (by rfl) (qo.alloc _) ⟨X2.heap.size, 0, none⟩ 1 1 (cP v.r) (by rfl) rfl hcc.out (oneP v.r) (by simp only [maxLen]; omega) (by omega) hsz3 ?_; intro v' w' r1 r2 r3; obtain ⟨Av, cv, rfl, _, _, _⟩ := SlR.of_own r1; have hn6 := own_neX qo q6; have s6 := (q6.alloc (.cells (cP v.r).toArray 62)).grown r2 hn6; obtain ⟨s60, s61⟩ := s6.all1; have s6l := s6.lt)
              obtain ⟨k6, k8, hG, hpre⟩ := HKK.out
              have hbA := balloc (Below.refl X2.heap.size X2) (.cells (cP v.r).toArray 62)
              have hKA := Kee.of_below (n1 := n1) hw2 hbA
              have hKP := Kee.grownP (n1 := n1) (qo.alloc (.cells (cP v.r).toArray 62)) r2 (by omega : w.heap.size ≤ n1) (by simp; omega)
              have g6' := s6.set 0 (.slice Av ((outs pre').length + 1) cv)
              simp only [List.set_cons_zero] at g6'
              have t7 := ((q7.alloc (.cells (cP v.r).toArray 62)).grown r2 (own_neX qo q7)).other (p := ⟨b6, 0, none⟩) e76 (.slice Av ((outs pre').length + 1) cv)
              have t4 := ((q4.alloc (.cells (cP v.r).toArray 62)).grown r2 (own_neX qo q4)).other (p := ⟨b6, 0, none⟩) (Ne.symm e64) (.slice Av ((outs pre').length + 1) cv)
              have t5 := ((q5.alloc (.cells (cP v.r).toArray 62)).grown r2 (own_neX qo q5)).other (p := ⟨b6, 0, none⟩) (Ne.symm e65) (.slice Av ((outs pre').length + 1) cv)
              have tow := own_setO r1 (p := ⟨b6, 0, none⟩) (own_neX r1 s6) (.slice Av ((outs pre').length + 1) cv)
              refine ⟨((hKX.trans (Kee.of_below hX1 hb2)).trans (hKA.trans hKP)).trans (Kee.setCell _ ⟨b6, 0, none⟩ _ (by show w.heap.size ≤ b6; omega) (by show b6 < n1; omega)), _, v4, v5, g6', ?_, ?_, t4, t5, fun y hy => ⟨⟨?_, (HGs.out y hy).2⟩, ?_⟩, ?_, ?_⟩
              · rw [outs_in _ _ HK1.out, List.length_append, flatP_snoc]; exact tow
              · rw [List.length_append]; exact t7
              · have hy' := own_two ((HGs.out y hy).1.alloc (.cells (cP v.r).toArray 62)) (qo.alloc (.cells (cP v.r).toArray 62)) (by decide) r2
                exact own_setO hy' (p := ⟨b6, 0, none⟩) (own_neX hy' s6) _
              · rcases List.mem_append.1 hy with hy | hy
                · exact (k6 y hy).2
                · rw [List.mem_singleton.1 hy]; exact hpb
              · simp only [List.length_append, List.length_cons, List.length_nil]; omega
              · exact ((hbX2.trans (hbA.mono hw2)).trans hKP.below).setCell (by show w.heap.size ≤ b6; omega) _
            · have hkb : (v.kind == 1) = false := by simp [hk]
              have HK1 := hide hk
              clear hk
              gi_wp2
              obtain ⟨k6, k8, hG, hpre⟩ := HKK.out
              refine ⟨hKX.trans (Kee.of_below hX1 hb2), v1, v4, v5, q6, ?_, ?_, q4, q5, fun y hy => ⟨HGs.out y hy, ?_⟩, ?_, hbX2⟩
              · rw [outs_no _ _ HK1.out]; exact qo
              · rw [List.length_append]; exact q7
              · rcases List.mem_append.1 hy with hy | hy
                · exact (k6 y hy).2
                · rw [List.mem_singleton.1 hy]; exact hpb
              · simp only [List.length_append, List.length_cons, List.length_nil]; omega
      case done =>
        rintro Dm ys X hDm hys ⟨v1, v4, v5, k1, k2, k3, k4, k5, k6, k7, k8⟩ hKm
        have e64 : b6 ≠ b4 := by omega
        have e65 := k1.ne k5
        have e45 := k4.ne k5
        obtain ⟨Av, cv, rfl, o1, o2, o3⟩ := SlR.of_own k2
        have f4 := (k4.set 0 (.slice Av (outs ys).length cv)).other (p := ⟨b5, 0, none⟩) e45 (.int .i64 0)
        have f5 := (k5.other (p := ⟨b4, 0, none⟩) (Ne.symm e45) (.slice Av (outs ys).length cv)).set 0 (.int .i64 0)
        simp only [List.set_cons_zero] at f4 f5
        have fo := own_setO (own_setO k2 (p := ⟨b4, 0, none⟩) (own_neX k2 k4) (.slice Av (outs ys).length cv)) (p := ⟨b5, 0, none⟩) (own_neX (own_setO k2 (p := ⟨b4, 0, none⟩) (own_neX k2 k4) (.slice Av (outs ys).length cv)) (k5.other (p := ⟨b4, 0, none⟩) (Ne.symm e45) _)) (.int .i64 0)
        have fG : ∀ y ∈ ys, GY n1 y ((X.setCell ⟨b4, 0, none⟩ (.slice Av (outs ys).length cv)).setCell ⟨b5, 0, none⟩ (.int .i64 0)) := fun y hy => by
          have hy1 := own_setO (k6 y hy).1.1 (p := ⟨b4, 0, none⟩) (own_neX (k6 y hy).1.1 k4) (.slice Av (outs ys).length cv)
          exact ⟨own_setO hy1 (p := ⟨b5, 0, none⟩) (own_neX hy1 (k5.other (p := ⟨b4, 0, none⟩) (Ne.symm e45) _)) _, (k6 y hy).1.2⟩
        have fb := (k8.setCell (p := ⟨b4, 0, none⟩) (by show w.heap.size ≤ b4; omega) (.slice Av (outs ys).length cv)).setCell (p := ⟨b5, 0, none⟩) (by show w.heap.size ≤ b5; omega) (.int .i64 0)
        have fK : ((X.setCell ⟨b4, 0, none⟩ (.slice Av (outs ys).length cv)).setCell ⟨b5, 0, none⟩ (.int .i64 0)).heap[Dm]? = some (.deferred (some [])) :=
          (Below.heap_setCell _ ⟨b5, 0, none⟩ _ Dm (by show Dm ≠ b5; omega)).trans ((Below.heap_setCell _ ⟨b4, 0, none⟩ _ Dm (by show Dm ≠ b4; omega)).trans hKm)
        have HFF := hide (And.intro f4 (And.intro f5 (And.intro fo (And.intro fG (And.intro fb fK)))))
        have HKK := hide (And.intro k6 (And.intro k7 (And.intro hys hDm)))
        obtain ⟨x6, y6⟩ := k1.all1
        obtain ⟨x4, y4⟩ := k4.all1
        obtain ⟨x5, y5⟩ := k5.all1
        have l4 := k4.lt
        have l5 := k5.lt
        have l6 := k1.lt
        clear f4 f5 fo fG fb fK k6 k7 hys hKm k2 k3
        go_wp2
        refine leaves_marksT (B := w7.heap.size) (T := fun V => Blk V b4 57 [.slice Av (outs ys).length cv] ∧ Blk V b5 29 [.int .i64 0] ∧ V.ownsRow n1 62 4 (.slice Av (outs ys).length cv) (outs ys).length ((outs ys).flatMap cP) ∧ (∀ y ∈ ys, GY n1 y V) ∧ Below w.heap.size w V) ?_ [Dm] _ ?_ (by simp) ⟨HFF.out.1, HFF.out.2.1, HFF.out.2.2.1, HFF.out.2.2.2.1, HFF.out.2.2.2.2.1⟩ ?_
        · rintro V D hD hd ⟨t1, t2, t3, t4, t5⟩
          have hg := grownBy_putObj' V D (.deferred none)
          have hr : ∀ q, some D = some q → ∃ o : Obj, V.heap[q]? = some o ∧ o.isCells = false := fun q e => by cases e; exact ⟨_, hd, rfl⟩
          exact ⟨t1.non hg hr, t2.non hg hr, own_non t3 hg hr, fun y hy => ⟨own_non (t4 y hy).1 hg hr, (t4 y hy).2⟩, t5.grown hg t5.size (fun q e => by cases e; omega)⟩
        · intro D hD
          rw [List.mem_singleton.1 hD]
          exact ⟨HKK.out.2.2.2, HFF.out.2.2.2.2.2⟩
        · rintro W' ⟨t1, t2, t3, t4, t5⟩
          obtain ⟨a4, -⟩ := t1.all1
          obtain ⟨a5, -⟩ := t2.all1
          have hr3 := own_row t3
          refine ⟨.tuple #[.slice Av (outs ys).length cv, .int .i64 0], by simp [results, Try.results21, go_sem, a4, a5], t5, .inr ⟨s, HV.out, HSO.out, .inr ⟨?_, Av, (outs ys).length, cv, outs ys, rfl, hr3.1, hr3.2.1, hr3.2.2, ?_⟩⟩⟩
          · rw [hP, ← HKK.out.2.2.1]
            exact expOk_good HKK.out.2.1 (fun y hy => (HKK.out.1 y hy).2)
          · rw [hP, ← HKK.out.2.2.1, expB_out]
            exact Pls.of W' n1 (outY ys) (fun y hy => t4 y (List.mem_filter.1 hy).1)
      case stop =>
        rintro Dm pre' X hDm ⟨⟨h1, h2, h3⟩, h4⟩ hKm
        refine (wpIn_wide (n := 6)).2 ?_
        have HFF := hide (And.intro h1 (And.intro h2 (And.intro h3 (And.intro h4 hKm))))
        clear h1 h2 h3 h4 hKm
        go_wp2
        refine leaves_marksT (B := w7.heap.size) (T := fun V => Blk V b4 57 [.slice none 0 0] ∧ Blk V b5 29 [.int .i64 140] ∧ Below w.heap.size w V) ?_ [Dm] _ ?_ (by simp) ⟨HFF.out.1, HFF.out.2.1, HFF.out.2.2.1⟩ ?_
        · rintro V D hD hd ⟨t1, t2, t5⟩
          have hg := grownBy_putObj' V D (.deferred none)
          have hr : ∀ q, some D = some q → ∃ o : Obj, V.heap[q]? = some o ∧ o.isCells = false := fun q e => by cases e; exact ⟨_, hd, rfl⟩
          exact ⟨t1.non hg hr, t2.non hg hr, t5.grown hg t5.size (fun q e => by cases e; omega)⟩
        · intro D hD
          rw [List.mem_singleton.1 hD]
          exact ⟨hDm, HFF.out.2.2.2.2⟩
        · rintro W' ⟨t1, t2, t5⟩
          obtain ⟨a4, -⟩ := t1.all1
          obtain ⟨a5, -⟩ := t2.all1
          exact ⟨.tuple #[.slice none 0 0, .int .i64 140], by simp [results, Try.results21, go_sem, a4, a5], t5, .inr ⟨s, HV.out, HSO.out, .inl ⟨by rw [hP]; exact HFF.out.2.2.2.1, rfl⟩⟩⟩
end Go.Proofs.Ytncdombfhcfobaa
