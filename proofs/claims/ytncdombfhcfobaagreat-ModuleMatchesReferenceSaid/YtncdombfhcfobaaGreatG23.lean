/- ModuleMatchesReference: what the law's function does. -/
import Derived.Test.YtncdombfhcfobaaGreatG22
namespace Go.Proofs.YtncdombfhcfobaaGreat
open Go.RowKit Go.Shelf
theorem CpR.oldC {w w' : World} {r : CR} {c : Cp} (h : CpR w r c) (hb : Below w.heap.size w w') : CpR w' r c := h.to hb
/-- a slice of plain values abides a store into a cell that holds a slice -/
theorem SlR.setSl {w : World} {B k n : Nat} {A : Option Addr} {xs : List Value} {p : Addr} {a : Option Addr} {l c : Nat} (h : SlR w B k A n xs) (hp : w.cell? p = some (.slice a l c)) (hx : ∀ u ∈ xs, ∀ a l c, u ≠ .slice a l c) (v : Value) : SlR (w.setCell p v) B k A n xs := by
  refine ⟨h.1, fun hn => ?_⟩
  obtain ⟨b, off, e, hb, hc⟩ := h.2 hn
  refine ⟨b, off, e, hb, fun j u hu => ?_⟩
  have h1 := hc j u hu
  have hne : p ≠ ⟨b, off + j, none⟩ := fun e => by
    rw [← e, hp] at h1
    injection h1 with h1
    exact hx u (List.mem_of_getElem? hu) _ _ _ h1.symm
  first | exact (World.cell?_setCell_other w v hne).trans h1 | exact (World.cell?_setCell_other _ hne).trans h1 | exact (World.cell?_setCell_other _ _ _ _ hne).trans h1 | exact (World.cell?_setCell_other _ _ _ hne).trans h1
theorem noSlI (l : List It) : ∀ u ∈ l.flatMap cI, ∀ a n c, u ≠ Value.slice a n c := by
  intro u hu a n c e
  obtain ⟨s, _, hu⟩ := List.mem_flatMap.1 hu
  simp only [cI, List.mem_cons, List.not_mem_nil, or_false] at hu
  rcases hu with rfl | rfl | rfl | rfl | rfl | rfl <;> cases e
theorem noSlN (l : List Int) : ∀ u ∈ l.flatMap cN, ∀ a n c, u ≠ Value.slice a n c := by
  intro u hu a n c e
  obtain ⟨s, _, hu⟩ := List.mem_flatMap.1 hu
  simp only [cN, List.mem_cons, List.not_mem_nil, or_false] at hu
  subst hu
  cases e
theorem CpR.setSl {w : World} {r : CR} {q : Cp} {p : Addr} {a : Option Addr} {l c : Nat} (h : CpR w r q) (hp : w.cell? p = some (.slice a l c)) (v : Value) : CpR (w.setCell p v) r q := by
  have hs : (w.setCell p v).heap.size = w.heap.size := by simp [World.setCell]
  refine ⟨h.1, ⟨h.2.1.1, h.2.1.2.1, ?_⟩, h.2.2.1, h.2.2.2.1, ?_⟩
  · rw [hs]; exact h.2.1.2.2.setSl hp (noSlI _) v
  · rw [hs]; exact h.2.2.2.2.setSl hp (noSlN _) v
theorem RIB.setC {B g i : Nat} {v : Value} {out : List Mo} {w : World} {cs : List Value} (h : RIB B v out w) (hb : Blk w g 32 cs) (u : Value) : RIB B v out (w.setCell ⟨g, i, none⟩ u) := by
  obtain ⟨P, h1, h2⟩ := h
  exact ⟨P, own_setO h1 (own_neX h1 hb) u, h2.1, fun k a b => ⟨(h2.2 k a b).1, own_setO (h2.2 k a b).2 (own_neX (h2.2 k a b).2 hb) u⟩⟩
theorem RIB.lm {B : Nat} {A : Option Addr} {n c : Nat} {out : List Mo} {w : World} (h : RIB B (.slice A n c) out w) (hn : n = out.length) : ∃ P : List MR, LmOk w ⟨A, n, c, P, out⟩ := by
  obtain ⟨P, h1, h2⟩ := h
  have e : P.length = n := by rw [h2.1, hn]
  rw [e] at h1
  exact ⟨P, SlR.of_own' h1, h2.o.mods⟩
theorem given_len (c : Int) (l : List I3) : (givenL c l).length ≤ 5 := by
  unfold givenL
  have := (gvF_bd c (l.take 5) (l.take 5).length (Nat.le_refl _)).2.2
  rw [List.take_length] at this
  rw [this, List.length_take]
  omega
/-- the instance with short lists -/
def shR (r : CR) : CR := ⟨r.code, r.mod, r.x, r.y, r.a, min r.n 14, r.c, r.a2, min r.n2 20, r.c2⟩
def shC (c : Cp) : Cp := ⟨c.code, c.mod, c.x, c.y, c.changes.take 14, c.gone.take 20⟩
theorem CpR.short {w : World} {r : CR} {c : Cp} (h : CpR w r c) : CpR w (shR r) (shC c) := by
  obtain ⟨h1, ⟨h2, h3, h4⟩, h5, h6, h7⟩ := h
  refine ⟨h1, ⟨by show min r.n 14 ≤ r.c; omega, h3, h4.few⟩, by show min r.n2 20 ≤ r.c2; omega, h6, ?_⟩
  have hl := h7.lenN
  have := h7.upto (m := min r.n2 20) (by omega)
  rw [flat_take cN 1 (fun _ => rfl)] at this
  show SlR w w.heap.size 1 r.a2 (min r.n2 20) ((c.gone.take 20).flatMap cN)
  rw [show c.gone.take 20 = c.gone.take (min r.n2 20) by
    by_cases hn : r.n2 ≤ 20
    · rw [Nat.min_eq_left hn, List.take_of_length_le (by omega), List.take_of_length_le (by omega)]
    · rw [Nat.min_eq_right (by omega)]]
  exact this
set_option linter.unusedSimpArgs false in
set_option maxRecDepth 100000 in
set_option maxHeartbeats 16000000 in
theorem c_Matches (A0 A1 A2 A6 : Option Addr) (n0 c0 d1 d2 n6 c6 : Nat) (rows0 : List XR) (x0 : List (List I3)) (ys zs : List I3) (gone which id : Int) (odd : It) (rows6 : List MR) (ms6 : List Mo) (rc : CR) (c : Cp) (w : World)
    (hn0 : n0 ≤ 9223372036854775807) (hr0 : SlR w w.heap.size 1 A0 n0 (rows0.flatMap cX)) (hX0 : Xss w rows0 x0) (hn1 : ys.length ≤ d1) (hd1 : d1 ≤ 9223372036854775807) (hr1 : SlR w w.heap.size 3 A1 ys.length (ys.flatMap c3)) (hw1 : ∀ s ∈ ys, ok3 s)
    (hn2 : zs.length ≤ d2) (hd2 : d2 ≤ 9223372036854775807) (hr2 : SlR w w.heap.size 3 A2 zs.length (zs.flatMap c3)) (hw2 : ∀ s ∈ zs, ok3 s) (hg : okN gone) (hwh : okN which)
    (hn6 : n6 ≤ c6) (hc6 : c6 ≤ 9223372036854775807) (hr6 : SlR w w.heap.size 2 A6 n6 (rows6.flatMap cM)) (hm6 : Mods w rows6 ms6) (hC : CpR w rc c) :
    Calls Tryz.prog 3 #[.slice A0 n0 c0, .slice A1 ys.length d1, .slice A2 zs.length d2, .int .i64 gone, .int .i64 which, itV odd, .slice A6 n6 c6, crV rc, .int .i64 id] w fun e w' => e = .returned (.bool true) ∧ Below w.heap.size w w' := by
  have HO := hide (And.intro hw1 hw2)
  have hb0 := balloc (balloc (Below.refl w.heap.size w) (.cells #[.int .i64 odd.id, .int .i64 odd.kind, .int .i64 odd.x, .int .i64 odd.y, .string odd.text, .int .i64 odd.mod] 27)) (.cells #[.int .i64 rc.code, .int .i64 rc.mod, .int .i64 rc.x, .int .i64 rc.y, .slice rc.a rc.n rc.c, .slice rc.a2 rc.n2 rc.c2] 32)
  have gI := (Blk.new w 27 (cI odd)).alloc (.cells #[.int .i64 rc.code, .int .i64 rc.mod, .int .i64 rc.x, .int .i64 rc.y, .slice rc.a rc.n rc.c, .slice rc.a2 rc.n2 rc.c2] 32)
  have gC := Blk.new (w.alloc (.cells #[.int .i64 odd.id, .int .i64 odd.kind, .int .i64 odd.x, .int .i64 odd.y, .string odd.text, .int .i64 odd.mod] 27)) 32 (cC rc)
  rw [show (w.alloc (.cells #[.int .i64 odd.id, .int .i64 odd.kind, .int .i64 odd.x, .int .i64 odd.y, .string odd.text, .int .i64 odd.mod] 27)).heap.size = w.heap.size + 1 by simp] at gC
  have H0 : Hid (∀ W : World, Below ((w.alloc (.cells #[.int .i64 odd.id, .int .i64 odd.kind, .int .i64 odd.x, .int .i64 odd.y, .string odd.text, .int .i64 odd.mod] 27)).alloc (.cells #[.int .i64 rc.code, .int .i64 rc.mod, .int .i64 rc.x, .int .i64 rc.y, .slice rc.a rc.n rc.c, .slice rc.a2 rc.n2 rc.c2] 32)).heap.size ((w.alloc (.cells #[.int .i64 odd.id, .int .i64 odd.kind, .int .i64 odd.x, .int .i64 odd.y, .string odd.text, .int .i64 odd.mod] 27)).alloc (.cells #[.int .i64 rc.code, .int .i64 rc.mod, .int .i64 rc.x, .int .i64 rc.y, .slice rc.a rc.n rc.c, .slice rc.a2 rc.n2 rc.c2] 32)) W → ((SlR W W.heap.size 1 A0 n0 (rows0.flatMap cX) ∧ Xss W rows0 x0) ∧ SlR W W.heap.size 3 A1 ys.length (ys.flatMap c3) ∧ SlR W W.heap.size 3 A2 zs.length (zs.flatMap c3)) ∧
      (Blk W w.heap.size 27 (cI odd) ∧ Blk W (w.heap.size + 1) 32 (cC rc)) ∧ Below w.heap.size w W) := hide fun W hW => by
    have hb := bthen hb0 hW
    exact ⟨⟨⟨hr0.to' hb, hX0.to hb⟩, hr1.to' hb, hr2.to' hb⟩, ⟨gI.below hW gI.lt, gC.below hW gC.lt⟩, hb⟩
  have HA := hide (And.intro hr1 (And.intro hr2 (And.intro hr6 (And.intro hm6 hC))))
  have HLow := hide (made_low x0)
  have HN6 := hide (And.intro hn6 hc6)
  clear hr0 hX0 hr1 hr2 hw1 hw2 hr6 hm6 hC gI gC hb0 hn6 hc6
  unfold itV crV
  go_enter Tryz.func3, Tryz.ntmps3
  rw [show Code.block 0 _ = blk 0 from rfl]
  go_upto_region 1 with (fail)
  generalize (w.alloc (.cells #[.int .i64 odd.id, .int .i64 odd.kind, .int .i64 odd.x, .int .i64 odd.y, .string odd.text, .int .i64 odd.mod] 27)).alloc (.cells #[.int .i64 rc.code, .int .i64 rc.mod, .int .i64 rc.x, .int .i64 rc.y, .slice rc.a rc.n rc.c, .slice rc.a2 rc.n2 rc.c2] 32) = w0 at *
  go_wp2_with fail
  refine (c_sane w0).mono ?_
  rintro e w1 ⟨rfl, hb1⟩
  obtain ⟨⟨⟨s0, X0⟩, -, -⟩, -, -⟩ := H0.out w1 hb1
  have hk := c_MadeB A0 n0 c0 rows0 x0 w1 hn0 s0 X0
  have H1 := hide hb1
  clear hb1 s0 X0
  go_wp2_with fail
  refine hk.mono ?_
  clear hk
  rintro e w2 ⟨v20, rfl, hrib0, hb2⟩
  have H2 := hide (And.intro (bthen H1.out hb2) hrib0)
  obtain ⟨⟨⟨s0, X0⟩, -, -⟩, -, -⟩ := H0.out w2 H2.out.1
  have hk := c_MadeB A0 n0 c0 rows0 x0 w2 hn0 s0 X0
  clear hb2 hrib0 s0 X0
  go_wp2_with fail
  refine hk.mono ?_
  clear hk
  rintro e w3 ⟨v21, rfl, hrib1, hb3⟩
  have hlen5 := HLow.out.len
  have hok12 : ∀ m ∈ madeL x0, m.items.length ≤ 12 := fun m hm => itsOk_len (HLow.out.ok m hm)
  have hids : ∀ m ∈ madeL x0, okN m.id := fun m hm => by have := HLow.out.id_of hm; have := HLow.out.len; unfold okN; omega
  generalize madeL x0 = ML at *
  obtain ⟨P0, ho0, hm0⟩ := H2.out.2
  obtain ⟨A20, c20, rfl, -, -, -⟩ := SlR.of_own ho0
  have hP0 : P0.length = ML.length := hm0.1
  rw [hP0] at ho0
  obtain ⟨P1, ho1, hm1⟩ := hrib1
  obtain ⟨A21, c21, rfl, -, -, -⟩ := SlR.of_own ho1
  have hP1 : P1.length = ML.length := hm1.1
  rw [hP1] at ho1
  rw [hP0, hP1]
  have hrib1 : RIB w2.heap.size (.slice A21 ML.length c21) ML w3 := ⟨P1, by rw [hP1]; exact ho1, hm1⟩
  have H3 := hide (And.intro hrib1 (And.intro hb3 (And.intro ho1 hm1)))
  have H20 : Hid (RIB w1.heap.size (.slice A20 ML.length c20) ML w2) := hide ⟨P0, by rw [hP0]; exact ho0, hm0⟩
  have HB2 := hide H2.out.1
  have HL := hide (And.intro hok12 hids)
  clear H2 ho0 hm0 ho1 hm1 hb3 hrib1 hP0 hok12 hids
  go_upto_if 75 with (fail)
  go_cut [22] from 75 to 100 (fun _ wx => ∃ out' : List Mo, out'.length = ML.length ∧ (∀ m ∈ out', m.items.length ≤ 12) ∧ RIB w2.heap.size (.slice A21 ML.length c21) out' wx ∧ Below w2.heap.size w2 wx)
  case first =>
    have HBx := hide HB2.out
    clear H1 H20
    by_cases hz : ML.length = 0
    · have hz' : ¬ (0 : Int) < (ML.length : Int) := by omega
      have HZ := hide hz
      clear hz
      go_wp2_with fail
      go_meet
      exact ⟨ML, rfl, HL.out.1, H3.out.1, H3.out.2.1⟩
    · have hpos : (0 : Int) < (ML.length : Int) := by omega
      have hpos1 : (1 : Int) ≤ (ML.length : Int) := by omega
      obtain ⟨k, hpk, hkl⟩ : ∃ k : Nat, pk which (ML.length : Int) = k ∧ k < ML.length := by
        have h := pk_range which (ML.length : Int) hpos1
        exact ⟨(pk which (ML.length : Int)).toNat, by omega, by omega⟩
      have hlp := c_lpick which (ML.length : Int) w3 hwh.1 hwh.2 hpos1 (by omega)
      rw [hpk] at hlp
      have hkP : k < P1.length := by rw [hP1]; exact hkl
      obtain ⟨bA, oA, rfl, hbA, x0, x1⟩ := (SlR.of_own' H3.out.2.2.1).atM (Below.refl _ _) hkP
      have hkl' : (k : Int) < (ML.length : Int) := by omega
      have hrow := (H3.out.2.2.2.2 k hkP hkl).2
      have HRow := hide hrow
      clear hpk hrow x0 hz
      obtain ⟨ri, ra, rn, rcap, hr⟩ : ∃ ri ra rn rcap, P1[k] = ⟨ri, ra, rn, rcap⟩ := ⟨_, _, _, _, rfl⟩
      rw [hr] at x1 HRow
      simp only [] at x1 HRow
      clear hr hkP
      go_wp2_with fail
      refine hlp.mono ?_
      clear hlp
      rintro e w3' ⟨rfl, rfl⟩
      go_upto_region 8 with (fail)
      have hn0 : (0 : Int) ≤ (rn : Int) := by omega
      by_cases hn : rn = 0
      · subst hn
        go_wp2_with fail
        go_meet
        exact ⟨ML, rfl, HL.out.1, H3.out.1, H3.out.2.1⟩
      · have hnp : (0 : Int) < (rn : Int) := by omega
        have hnp1 : (1 : Int) ≤ (rn : Int) := by omega
        obtain ⟨g, cap, cur, hv, hbg, hcur, hnc, hcm, hsz, htk⟩ := HRow.out.2.resolve_left (fun h => hn h.2)
        simp only [Value.slice.injEq, true_and] at hv
        obtain ⟨rfl, rfl⟩ := hv
        obtain ⟨j, hpj, hjn⟩ : ∃ j : Nat, pk gone (rn : Int) = j ∧ j < rn := by
          have h := pk_range gone (rn : Int) hnp1
          exact ⟨(pk gone (rn : Int)).toNat, by omega, by omega⟩
        have hcm' : rcap ≤ 9223372036854775807 := hcm
        have HK := hide (fun (x : BW w3) => c_lpick gone (rn : Int) x.val hg.1 hg.2 hnp1 (by omega))
        rw [hpj] at HK
        have gG : Blk w3 g 27 cur.toList := by
          unfold Blk
          rw [hcur]
        have hsz' : cur.toList.length = rcap * 6 := by simpa using hsz
        have hzz : ∀ i : Nat, i < 6 → ∃ v, cur.toList[j * 6 + i]? = some v := fun i hi => ⟨_, List.getElem?_eq_getElem (by rw [hsz']; omega)⟩
        have hjn' : (j : Int) < (rn : Int) := by omega
        have HG := hide (And.intro gG (And.intro hzz hbg))
        clear hpj hcur hnc hsz htk gG hsz' hzz hn hbg hcm
        go_upto_region 9 with (fail)
        have q1 := fun (x : BW w3) => (x.ok.cell (p := ⟨bA, _, none⟩) hbA).trans x1
        have qo := fun (x : BW w3) => ((H0.out x.val (bthen (bthen HBx.out H3.out.2.1) x.ok)).2.1.1).allI
        have qo0 := fun x => (qo x).1
        have qo1 := fun x => (qo x).2.1
        have qo2 := fun x => (qo x).2.2.1
        have qo3 := fun x => (qo x).2.2.2.1
        have qo4 := fun x => (qo x).2.2.2.2.1
        have qo5 := fun x => (qo x).2.2.2.2.2
        have lI := ((H0.out w3 (bthen HBx.out H3.out.2.1)).2.1.1).lt
        clear qo
        refine wp_region_bt 13 w3 (Below.refl _ _) (by kernel_rfl) (by kernel_rfl) ?_
        simp only [List.take_succ_cons, List.take_zero, List.drop_succ_cons, List.drop_zero]
        repeat (go_big_quiet_step ((go_at_call 6; exact bw_same (HK.out _))))
        refine wpQuiet_nil ?_
        intro w4 hb4
        have gG := HG.out.1.below hb4 HG.out.1.lt
        obtain ⟨v0, hv0⟩ := HG.out.2.1 0 (by omega)
        obtain ⟨v1, hv1⟩ := HG.out.2.1 1 (by omega)
        obtain ⟨v2, hv2⟩ := HG.out.2.1 2 (by omega)
        obtain ⟨v3, hv3⟩ := HG.out.2.1 3 (by omega)
        obtain ⟨v4, hv4⟩ := HG.out.2.1 4 (by omega)
        obtain ⟨v5, hv5⟩ := HG.out.2.1 5 (by omega)
        have z0 := (gG.cell (j * 6)).trans hv0
        have z1 := (gG.cell (j * 6 + 1)).trans hv1
        have z2 := (gG.cell (j * 6 + 2)).trans hv2
        have z3 := (gG.cell (j * 6 + 3)).trans hv3
        have z4 := (gG.cell (j * 6 + 4)).trans hv4
        have z5 := (gG.cell (j * 6 + 5)).trans hv5
        have f0 := gG.free (j * 6)
        have f1 := gG.free (j * 6 + 1)
        have f2 := gG.free (j * 6 + 2)
        have f3 := gG.free (j * 6 + 3)
        have f4 := gG.free (j * 6 + 4)
        have f5 := gG.free (j * 6 + 5)
        have lG := gG.lt
        have HF := hide (show ∃ out' : List Mo, out'.length = ML.length ∧ (∀ m ∈ out', m.items.length ≤ 12) ∧ RIB w2.heap.size (.slice (some ⟨bA, oA, none⟩) ML.length c21) out' (setW w4 g (j * 6) odd) ∧ Below w2.heap.size w2 (setW w4 g (j * 6) odd) from by
          obtain ⟨o, h1, h2, h3⟩ := (H3.out.1.bel hb4).stored HL.out.1 g j odd ⟨_, gG⟩
          exact ⟨o, h1, h2, h3, setW_below (bthen H3.out.2.1 hb4) HG.out.2.2 _ _⟩)
        clear hv0 hv1 hv2 hv3 hv4 hv5 gG q1 qo0 qo1 qo2 qo3 qo4 qo5 lI HK
        go_wp2_with fail
        go_meet
        exact HF.out
  case rest =>
    obtain ⟨w5, rfl⟩ : ∃ w5 : World, w5 = wc := ⟨_, rfl⟩
    obtain ⟨MB, hMl, hMi, hMr, hb5⟩ := hcut
    have H5 := hide (And.intro hMi (And.intro hMr hb5))
    clear hMi hMr hb5 H3 hP1
    have hb15 := bthen HB2.out H5.out.2.2
    obtain ⟨⟨-, s1, -⟩, -, -⟩ := H0.out w5 hb15
    obtain ⟨PL0, hlm0⟩ := (H20.out.bel H5.out.2.2).lm rfl
    have hk := c_Instance A20 ML.length c20 PL0 ML which A1 ys.length d1 ys gone w5 (by omega) hlm0.1 hlm0.2 HL.out.2 hn1 hd1 s1 HO.out.1 hwh hg
    have HB5 := hide hb15
    clear hb15 s1 hlm0
    go_wp2_with fail
    refine hk.mono ?_
    clear hk
    rintro e w6 ⟨hb6, hinst⟩
    have huni : ∃ (rO : CR) (cO : Cp) (bO : Bool), e = .returned (.tuple #[crV rO, .bool bO]) ∧ CpR w6 rO cO ∧ okN cO.mod := by
      rcases hinst with ⟨-, rfl⟩ | ⟨hne, r, rfl, hr⟩
      · exact ⟨zCR, zCq, false, rfl, zCqR w6, by show okN 0; unfold okN; omega⟩
      · refine ⟨r, _, true, rfl, hr, ?_⟩
        have := (inst_low HLow.out hne which ys gone).mod
        unfold okN
        omega
    obtain ⟨rO, cO, bO, rfl, hcO, hoM⟩ := huni
    have gO : Blk (w6.alloc (.cells #[.int .i64 rO.code, .int .i64 rO.mod, .int .i64 rO.x, .int .i64 rO.y, .slice rO.a rO.n rO.c, .slice rO.a2 rO.n2 rO.c2] 32)) w6.heap.size 32 (cC rO) := Blk.new w6 32 (cC rO)
    have hb67 := balloc (Below.refl w6.heap.size w6) (.cells #[.int .i64 rO.code, .int .i64 rO.mod, .int .i64 rO.x, .int .i64 rO.y, .slice rO.a rO.n rO.c, .slice rO.a2 rO.n2 rO.c2] 32)
    have hc7 := hcO.to hb67
    have hb57 := bthen hb6 hb67
    have H7 := hide (And.intro hb57 (And.intro hc7 gO))
    have HOM := hide (And.intro hoM hcO.1)
    have HL23 := hide (show w.heap.size + 1 < w6.heap.size from ((H0.out w6 (bthen HB5.out hb6)).2.1.2).lt)
    clear hinst hcO gO hb67 hc7 hb57 hb6 hoM
    unfold crV
    go_upto_region 11 with (fail)
    generalize w6.alloc (.cells #[.int .i64 rO.code, .int .i64 rO.mod, .int .i64 rO.x, .int .i64 rO.y, .slice rO.a rO.n rO.c, .slice rO.a2 rO.n2 rO.c2] 32) = w7 at *
    generalize w6.heap.size = b23 at *
    obtain ⟨-, ⟨-, gC7⟩, hbw7⟩ := H0.out w7 (bthen HB5.out H7.out.1)
    have hC7 := HA.out.2.2.2.2.to hbw7
    obtain ⟨hcn, hcc, -⟩ := hC7.2.1
    obtain ⟨hcn2, hcc2, -⟩ := hC7.2.2
    have hfew := c_few rc.a rc.n rc.c w7 hcn hcc
    obtain ⟨x0, x1, x2, x3, x4, x5⟩ := gC7.allC
    have f4 := gC7.free 4
    have lC := gC7.lt
    obtain ⟨k14, hk14⟩ : ∃ k14, min rc.n 14 = k14 := ⟨_, rfl⟩
    rw [hk14] at hfew
    have HK14 := hide hk14
    have gC8 := gC7.set 4 (.slice rc.a k14 rc.c)
    have HX := hide (And.intro gC7 gC8)
    clear gC7 gC8 hC7 hbw7 hk14
    go_wp2_with fail
    refine hfew.mono ?_
    clear hfew
    rintro e w7' ⟨rfl, rfl⟩
    go_upto_region 12 with (fail)
    clear x0 x1 x2 x3 x4 x5 f4 lC
    generalize hw8 : w7.setCell ⟨w.heap.size + 1, 4, none⟩ (.slice rc.a k14 rc.c) = w8 at *
    have HW8 := hide hw8
    clear hw8
    have x5 : w8.cell? ⟨w.heap.size + 1, 5, none⟩ = some (.slice rc.a2 rc.n2 rc.c2) := HX.out.2.cell 5
    have f5 := HX.out.2.free 5
    have lC := HX.out.2.lt
    go_cut [] from 113 to 120 (fun wx => wx = w8.setCell ⟨w.heap.size + 1, 5, none⟩ (.slice rc.a2 (min rc.n2 20) rc.c2))
    case first =>
      have hn20 : (0 : Int) ≤ (rc.n2 : Int) := by omega
      have hncc : (rc.n2 : Int) ≤ (rc.c2 : Int) := by omega
      have hn63 : rc.n2 ≤ 9223372036854775807 := by omega
      by_cases h : rc.n2 ≤ 20
      · have h' : (rc.n2 : Int) ≤ 20 := by omega
        have e : min rc.n2 20 = rc.n2 := by omega
        have e2 : (min (rc.n2 : Int) 20).toNat = rc.n2 := by omega
        have HE := hide e
        have HE2 := hide e2
        clear e h e2
        go_wp2_with fail
        go_meet
        first | (rw [HE.out]; exact rfl) | (rw [HE.out]; show w8.setCell _ (.slice rc.a2 (min (rc.n2 : Int) 20).toNat rc.c2) = _; rw [HE2.out])
      · have h' : ¬ (rc.n2 : Int) ≤ 20 := by omega
        have h'' : (20 : Int) ≤ (rc.c2 : Int) := by omega
        have e : min rc.n2 20 = 20 := by omega
        have e2 : (min (rc.n2 : Int) 20).toNat = 20 := by omega
        have HE := hide e
        have HE2 := hide e2
        clear e h e2
        go_wp2_with fail
        go_meet
        first | (rw [HE.out]; exact rfl) | (rw [HE.out]; show w8.setCell _ (.slice rc.a2 (min (rc.n2 : Int) 20).toNat rc.c2) = _; rw [HE2.out])
    case rest =>
      obtain ⟨w9, rfl⟩ : ∃ w9 : World, w9 = wc := ⟨_, rfl⟩
      have hb79 : Below w.heap.size w w9 := by
        rw [hcut, ← HW8.out]
        exact ((H0.out w7 (bthen HB5.out H7.out.1)).2.2.setCell (p := ⟨w.heap.size + 1, 4, none⟩) (by simp) _).setCell (p := ⟨w.heap.size + 1, 5, none⟩) (by simp) _
      have gC9 : Blk w9 (w.heap.size + 1) 32 (cC (shR rc)) := by
        rw [hcut]
        have h := HX.out.2.set 5 (.slice rc.a2 (min rc.n2 20) rc.c2)
        rw [← HK14.out] at h
        exact h
      have hO9 : CpR w9 rO cO := by
        rw [hcut]
        refine CpR.setSl ?_ x5 _
        rw [← HW8.out]
        exact H7.out.2.1.setSl (HX.out.1.cell 4) _
      have gO9 : Blk w9 b23 32 (cC rO) := by
        rw [hcut, ← HW8.out]
        exact (H7.out.2.2.other (p := ⟨w.heap.size + 1, 4, none⟩) (by have := HL23.out; simp only []; omega) _).other (p := ⟨w.heap.size + 1, 5, none⟩) (by have := HL23.out; simp only []; omega) _
      have gI9 : Blk w9 w.heap.size 27 (cI odd) := by
        rw [hcut, ← HW8.out]
        exact ((H0.out w7 (bthen HB5.out H7.out.1)).2.1.1.other (p := ⟨w.heap.size + 1, 4, none⟩) (by simp) _).other (p := ⟨w.heap.size + 1, 5, none⟩) (by simp) _
      have r0 : RIB w1.heap.size (.slice A20 ML.length c20) ML w9 := by
        rw [hcut]
        refine RIB.setC ?_ HX.out.2 _
        rw [← HW8.out]
        exact RIB.setC (H20.out.bel (bthen H5.out.2.2 H7.out.1)) HX.out.1 _
      have r1 : RIB w2.heap.size (.slice A21 ML.length c21) MB w9 := by
        rw [hcut]
        refine RIB.setC ?_ HX.out.2 _
        rw [← HW8.out]
        exact RIB.setC (H5.out.2.1.bel H7.out.1) HX.out.1 _
      obtain ⟨PA, lm0⟩ := r0.lm rfl
      obtain ⟨PB, lm1⟩ := r1.lm hMl.symm
      have hc9 := (HA.out.2.2.2.2.to hb79).short
      have H9 : Hid (∀ W : World, Below w9.heap.size w9 W → ((LmOk W ⟨A20, ML.length, c20, PA, ML⟩ ∧ LmOk W ⟨A21, ML.length, c21, PB, MB⟩) ∧ (SlR W W.heap.size 2 A6 n6 (rows6.flatMap cM) ∧ Mods W rows6 ms6)) ∧ ((CpR W rO cO ∧ Blk W b23 32 (cC rO)) ∧ (CpR W (shR rc) (shC c) ∧ Blk W (w.heap.size + 1) 32 (cC (shR rc)))) ∧
          (Blk W w.heap.size 27 (cI odd) ∧ SlR W W.heap.size 3 A1 ys.length (ys.flatMap c3) ∧ SlR W W.heap.size 3 A2 zs.length (zs.flatMap c3)) ∧ Below w.heap.size w W) := hide fun W hW => by
        have hb := bthen hb79 hW
        exact ⟨⟨⟨lm0.to hW, lm1.to hW⟩, HA.out.2.2.1.to' hb, HA.out.2.2.2.1.to hb⟩, ⟨⟨hO9.to hW, gO9.below hW gO9.lt⟩, hc9.to hW, gC9.below hW gC9.lt⟩, ⟨gI9.below hW gI9.lt, HA.out.1.to' hb, HA.out.2.1.to' hb⟩, hb⟩
      have hmodO := HOM.out.2.2.1
      have HGm := hide (show okN rO.mod by rw [hmodO]; exact HOM.out.1)
      have HMi := hide H5.out.1
      clear hb79 gC9 hO9 gO9 gI9 r0 r1 lm0 lm1 hc9 hmodO hcut x5 f5 lC HX H7 H5 H0 H1 HB5 HB2 HW8 H20 HOM HL23 HK14
      go_upto_region 13 with (fail)
      have HS := hide (fun (W : World) (h : Below w9.heap.size w9 W) => (show W.cell? ⟨b23, 1, none⟩ = some (.int .i64 rO.mod) ∧ Below w9.heap.size w9 W from ⟨((H9.out W h).2.1.1.2.allC).2.1, h⟩))
      have HGv := hide (fun (W : World) (h : Below w9.heap.size w9 W) => c_Given A2 zs.length d2 zs rO.mod W (by omega) (HA.out.2.1.to' (H9.out W h).2.2.2) HO.out.2 HGm.out)
      go_cut [25] from 121 to 127 (fun v wx => NxCut w9 rO.mod (givenL rO.mod zs) v wx)
      case first =>
        go_region_held3 (fun W => W.cell? ⟨b23, 1, none⟩ = some (.int .i64 rO.mod) ∧ Below w9.heap.size w9 W)
          (first | exact HS.out _ (by assumption) | exact HS.out _ (bdrew (Below.refl _ _)) | exact HS.out _ h8 | exact HS.out _ (balloc h8 _) | exact HS.out _ (bset (bset h8 (Nat.le_refl _) _) (Nat.le_refl _) _) | (go_split_ands; first | exact HS.out _ (by assumption) | exact HS.out _ (bthen (by assumption) (by assumption)) | exact HS.out _ (balloc (by assumption) _) | exact HS.out _ (bdrew (balloc (Below.refl _ _) _)) | exact HS.out _ (balloc (bthen (by assumption) (by assumption)) _)))
          ((go_split_ands; go_at_call 9; refine (HGv.out _ (by assumption)).mono ?_; rintro e w8 ⟨v, rfl, hrow, hb8⟩; obtain ⟨A', c', rfl, hc1, hc2, hsl⟩ := SlR.of_own hrow; have h8 : Below w9.heap.size w9 w8 := bthen (by assumption) hb8; (try (obtain ⟨q0, q1, q2, q3⟩ := (((Blk.new w9 37 [.int .i64 0, .slice none 0 0]).drew).below hb8 (by simp)).all2; have q4 : w9.heap.size < w8.heap.size := (((Blk.new w9 37 [.int .i64 0, .slice none 0 0]).drew).below hb8 (by simp)).lt))))
        · go_wp2_with fail
          go_meet
          exact ⟨w8.heap.size, A', c', rfl, hc1, by simpa [maxLen] using hc2, Blk.new w8 37 [.int .i64 rO.mod, .slice A' (givenL rO.mod zs).length c'], hsl.to' (balloc (Below.refl _ _) _), balloc h8 _⟩
        · go_wp2_with fail
          go_meet
          have gN := ((Blk.new w9 37 [.int .i64 0, .slice none 0 0]).drew).below hb8 (by simp)
          exact ⟨w9.heap.size, A', c', rfl, hc1, by simpa [maxLen] using hc2, (gN.set 0 (.int .i64 rO.mod)).set 1 (.slice A' (givenL rO.mod zs).length c'), (SlR.of_own' (own_set (own_set hrow ⟨w9.heap.size, 0, none⟩ (by simp) (.int .i64 rO.mod)) ⟨w9.heap.size, 1, none⟩ (by simp) (.slice A' (givenL rO.mod zs).length c'))), bset (bset h8 (Nat.le_refl _) _) (Nat.le_refl _) _⟩
      case rest =>
        obtain ⟨w10, rfl⟩ : ∃ w10 : World, w10 = wc := ⟨_, rfl⟩
        obtain ⟨b25, A25, c25, rfl, g1, g2, gN, sN, hb910⟩ := hcut
        clear HS HGv
        have hGok := given_len rO.mod zs
        generalize givenL rO.mod zs = G at *
        have H10 : Hid (∀ W : World, Below w10.heap.size w10 W → (Blk W b25 37 [.int .i64 rO.mod, .slice A25 G.length c25] ∧ SlR W W.heap.size 6 A25 G.length (G.flatMap cI)) ∧ Below w9.heap.size w9 W) := hide fun W hW => ⟨⟨gN.below hW gN.lt, sN.to' hW⟩, bthen hb910 hW⟩
        have HN := hide (And.intro g1 g2)
        obtain ⟨-, -, ⟨gI, -, -⟩, -⟩ := H9.out w10 hb910
        obtain ⟨y0, y1, y2, y3, y4, y5⟩ := gI.allI
        have lI := gI.lt
        clear gN sN g1 g2 gI hb910
        go_upto_region 15 with (fail)
        have hbA := balloc (balloc (Below.refl w10.heap.size w10) (.cells #[.int .i64 odd.id, .int .i64 odd.kind, .int .i64 odd.x, .int .i64 odd.y, .string odd.text, .int .i64 odd.mod] 27)) (.cells #[.int .i64 id, .slice (some ⟨w10.heap.size, 0, none⟩) 1 1] 37)
        have gOd := (Blk.new w10 27 (cI odd)).alloc (.cells #[.int .i64 id, .slice (some ⟨w10.heap.size, 0, none⟩) 1 1] 37)
        have gSt := Blk.new (w10.alloc (.cells #[.int .i64 odd.id, .int .i64 odd.kind, .int .i64 odd.x, .int .i64 odd.y, .string odd.text, .int .i64 odd.mod] 27)) 37 [.int .i64 id, .slice (some ⟨w10.heap.size, 0, none⟩) 1 1]
        rw [show (w10.alloc (.cells #[.int .i64 odd.id, .int .i64 odd.kind, .int .i64 odd.x, .int .i64 odd.y, .string odd.text, .int .i64 odd.mod] 27)).heap.size = w10.heap.size + 1 by simp] at gSt
        have H11 : Hid (∀ W : World, Below ((w10.alloc (.cells #[.int .i64 odd.id, .int .i64 odd.kind, .int .i64 odd.x, .int .i64 odd.y, .string odd.text, .int .i64 odd.mod] 27)).alloc (.cells #[.int .i64 id, .slice (some ⟨w10.heap.size, 0, none⟩) 1 1] 37)).heap.size ((w10.alloc (.cells #[.int .i64 odd.id, .int .i64 odd.kind, .int .i64 odd.x, .int .i64 odd.y, .string odd.text, .int .i64 odd.mod] 27)).alloc (.cells #[.int .i64 id, .slice (some ⟨w10.heap.size, 0, none⟩) 1 1] 37)) W →
            (Blk W (w10.heap.size + 1) 37 [.int .i64 id, .slice (some ⟨w10.heap.size, 0, none⟩) 1 1] ∧ SlR W W.heap.size 6 (some ⟨w10.heap.size, 0, none⟩) 1 ([odd].flatMap cI)) ∧ Below w10.heap.size w10 W) := hide fun W hW =>
          ⟨⟨gSt.below hW gSt.lt, (gOd.below hW gOd.lt).slr rfl⟩, bthen hbA hW⟩
        clear y0 y1 y2 y3 y4 y5 lI hbA gOd gSt
        generalize (w10.alloc (.cells #[.int .i64 odd.id, .int .i64 odd.kind, .int .i64 odd.x, .int .i64 odd.y, .string odd.text, .int .i64 odd.mod] 27)).alloc (.cells #[.int .i64 id, .slice (some ⟨w10.heap.size, 0, none⟩) 1 1] 37) = w11 at *
        obtain ⟨⟨-, s6, m6⟩, -, -, -⟩ := H9.out w11 (H10.out w11 (H11.out w11 (Below.refl _ _)).2).2
        have hk := c_some A6 n6 c6 rows6 ms6 w11 (by have := HN6.out; omega) s6 m6
        clear s6 m6
        go_wp2_with fail
        refine hk.mono ?_
        clear hk
        rintro e w12 ⟨AS, nS, cS, rsS, rfl, t1, t2, t3, t4, t5, hb12⟩
        have H12 := hide (And.intro (And.intro t4 t5) (And.intro t3 hb12))
        have gL := Blk.new w12 28 [.slice A20 ML.length c20, .slice A21 ML.length c21, .slice AS nS cS]
        have hbL := balloc (Below.refl w12.heap.size w12) (.cells #[.slice A20 ML.length c20, .slice A21 ML.length c21, .slice AS nS cS] 28)
        clear t1 t2 t3 t4 t5 hb12
        go_wp2_with fail
        have HLo : Hid (∀ i : Nat, i < 3 → ∃ L : LM, LmB L ∧ ∀ W : World, Below (w12.alloc (.cells #[.slice A20 ML.length c20, .slice A21 ML.length c21, .slice AS nS cS] 28)).heap.size (w12.alloc (.cells #[.slice A20 ML.length c20, .slice A21 ML.length c21, .slice AS nS cS] 28)) W → LmOk W L ∧ W.cell? ⟨w12.heap.size, i, none⟩ = some (.slice L.A L.n L.c)) := hide (by
          intro i hi
          have hML := HL.out.1
          have hMB := HMi.out
          have hall : ∀ W : World, Below (w12.alloc (.cells #[.slice A20 ML.length c20, .slice A21 ML.length c21, .slice AS nS cS] 28)).heap.size (w12.alloc (.cells #[.slice A20 ML.length c20, .slice A21 ML.length c21, .slice AS nS cS] 28)) W → (LmOk W ⟨A20, ML.length, c20, PA, ML⟩ ∧ LmOk W ⟨A21, ML.length, c21, PB, MB⟩) ∧ LmOk W ⟨AS, nS, cS, rsS, someM ms6⟩ ∧ Blk W w12.heap.size 28 [.slice A20 ML.length c20, .slice A21 ML.length c21, .slice AS nS cS] := by
            intro W hW
            have hb := bthen hbL hW
            exact ⟨(H9.out W (H10.out W (H11.out W (bthen H12.out.2.2 hb)).2).2).1.1, ⟨H12.out.1.1.to' hb, H12.out.1.2.to hb⟩, gL.below hW gL.lt⟩
          obtain rfl | rfl | rfl : i = 0 ∨ i = 1 ∨ i = 2 := by omega
          · exact ⟨⟨A20, ML.length, c20, PA, ML⟩, ⟨by show ML.length ≤ 100; omega, fun m hm => Nat.le_trans (hML m hm) (by omega)⟩, fun W hW => ⟨(hall W hW).1.1, (hall W hW).2.2.cell 0⟩⟩
          · exact ⟨⟨A21, ML.length, c21, PB, MB⟩, ⟨by show ML.length ≤ 100; omega, fun m hm => Nat.le_trans (hMB m hm) (by omega)⟩, fun W hW => ⟨(hall W hW).1.2, (hall W hW).2.2.cell 1⟩⟩
          · refine ⟨⟨AS, nS, cS, rsS, someM ms6⟩, ⟨by show nS ≤ 100; have := H12.out.2.1; omega, fun m hm => ?_⟩, fun W hW => ⟨(hall W hW).2.1, (hall W hW).2.2.cell 2⟩⟩
            obtain ⟨m', -, rfl⟩ := List.mem_map.1 hm
            show (m'.items.take 14).length ≤ 14
            rw [List.length_take]
            omega)
        obtain ⟨rs, hrs⟩ : ∃ rs, shR rc = rs := ⟨_, rfl⟩
        obtain ⟨cs, hcs⟩ : ∃ cs, shC c = cs := ⟨_, rfl⟩
        have HB : Hid (∀ W : World, Below (w12.alloc (.cells #[.slice A20 ML.length c20, .slice A21 ML.length c21, .slice AS nS cS] 28)).heap.size (w12.alloc (.cells #[.slice A20 ML.length c20, .slice A21 ML.length c21, .slice AS nS cS] 28)) W →
            ((CpR W rO cO ∧ Blk W b23 32 (cC rO)) ∧ (CpR W rs cs ∧ Blk W (w.heap.size + 1) 32 (cC rs))) ∧ ((Blk W b25 37 [.int .i64 rO.mod, .slice A25 G.length c25] ∧ SlR W W.heap.size 6 A25 G.length (G.flatMap cI)) ∧ (Blk W (w10.heap.size + 1) 37 [.int .i64 id, .slice (some ⟨w10.heap.size, 0, none⟩) 1 1] ∧ SlR W W.heap.size 6 (some ⟨w10.heap.size, 0, none⟩) 1 ([odd].flatMap cI))) ∧
              (SlR W W.heap.size 3 A1 ys.length (ys.flatMap c3) ∧ SlR W W.heap.size 3 A2 zs.length (zs.flatMap c3)) ∧ Below w.heap.size w W) := hide (by
          intro W hW
          have hb12 := bthen H12.out.2.2 (bthen hbL hW)
          obtain ⟨q1, hb11⟩ := H11.out W hb12
          obtain ⟨q2, hb10⟩ := H10.out W hb11
          obtain ⟨-, ⟨q3, q4⟩, ⟨-, q5, q6⟩, q7⟩ := H9.out W hb10
          rw [hrs, hcs] at q4
          exact ⟨⟨q3, q4⟩, ⟨q2, q1⟩, ⟨q5, q6⟩, q7⟩)
        clear hrs hcs gL hbL H12 H11 H10 H9
        generalize (w12.alloc (.cells #[.slice A20 ML.length c20, .slice A21 ML.length c21, .slice AS nS cS] 28)) = w13 at *
        generalize w12.heap.size = gLs at *
        generalize hbS : w10.heap.size + 1 = b26 at *
        clear hbS
        generalize w10.heap.size = bOd at *
        generalize hbC : w.heap.size + 1 = bC at *
        clear hbC
        rename_i K2 hK2
        obtain ⟨⟨⟨cO', gO'⟩, ⟨cS', gC'⟩⟩, ⟨⟨g25, s25⟩, ⟨g26, s26⟩⟩, ⟨s1, s2⟩, -⟩ := HB.out w13 (Below.refl _ _)
        refine l0 rO rs cO cs ⟨rO.mod, A25, G.length, c25⟩ ⟨id, some ⟨bOd, 0, none⟩, 1, 1⟩ ⟨rO.mod, G⟩ ⟨id, [odd]⟩ b23 bC b25 b26 gLs A1 A2 d1 d2 ys zs _ w13 _ (by rfl) (by rfl) (by rfl) (by rfl) (by rfl) (by rfl) (by rfl) (by rfl) (by rfl) (by rfl) (by rfl) cO' gO' cS' gC' g25 ⟨⟨rfl, HN.out.1, HN.out.2, by simp only []; omega⟩, s25⟩ g26 ⟨⟨rfl, Nat.le_refl _, by simp only []; omega, by simp⟩, s26⟩ s1 s2 HO.out.1 HO.out.2 hn1 hd1 hn2 hd2 HLo.out ?_
        intro a2 W2 hK' hb'
        refine hK2 _ _ ?_
        have e19 : sl a2 19 = .bool true := (hK'.2.2 19 (by decide)).trans rfl
        obtain ⟨u2, rfl⟩ : ∃ u2, a2 = frm u2 := ⟨sl a2, act_frm hK'.1 hK'.2.1⟩
        rw [sl_frm u2 19 (by decide)] at e19
        have HW := hide (HB.out W2 hb').2.2.2
        clear hK2 cO' gO' cS' gC' g25 s25 g26 s26 s1 s2 hK' hb'
        unfold frm
        rw [e19]
        clear e19
        go_wp2_with fail
        go_ret
        exact ⟨rfl, HW.out⟩
end Go.Proofs.YtncdombfhcfobaaGreat
