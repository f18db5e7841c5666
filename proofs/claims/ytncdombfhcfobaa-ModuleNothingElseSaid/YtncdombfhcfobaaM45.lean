/- ModuleNothingElse: what the law's function does. -/
import Derived.Test.YtncdombfhcfobaaM42
import Derived.Test.YtncdombfhcfobaaM44
namespace Go.Proofs.Ytncdombfhcfobaa
open Go.RowKit
set_option linter.unusedSimpArgs false in
set_option maxRecDepth 100000 in
set_option maxHeartbeats 16000000 in
theorem c_Nothing (A B C : Option Addr) (n cc m d k f : Nat) (rows : List XR) (xs : List (List I3)) (ys zs : List I3) (gone which : Int) (other : Int) (w : World) (hn : n ≤ 9223372036854775807) (hr : SlR w w.heap.size 1 A n (rows.flatMap cX)) (hx : Xss w rows xs) (hm : m ≤ d) (hd : d ≤ 9223372036854775807) (hs : SlR w w.heap.size 3 B m (ys.flatMap c3)) (hk : k ≤ 9223372036854775807) (ht : SlR w w.heap.size 3 C k (zs.flatMap c3))
    (hy : ∀ a ∈ ys, ok3 a) (hz : ∀ a ∈ zs, ok3 a) (hg : okN gone) (hw : okN which) (hot : okN other) :
    Calls Try.prog 7 #[.slice A n cc, .slice B m d, .slice C k f, .int .i64 gone, .int .i64 which, .int .i64 other] w fun e w' => e = .returned (.bool true) ∧ Below w.heap.size w w' := by
  have HA := hide (And.intro hr (And.intro hx (And.intro hs (And.intro ht (And.intro hy hz)))))
  have HLow := hide (made_low xs)
  clear hr hx hs hy ht hz
  go_enter Try.func7, Try.ntmps7
  go_wp2_with fail
  refine (c_sane w).mono ?_
  rintro e w1 ⟨rfl, hb1⟩
  have hk1 := c_Made A n cc rows xs w1 hn (HA.out.1.to' hb1) (HA.out.2.1.to hb1)
  have H1 := hide hb1
  clear hb1
  go_wp2_with fail
  refine hk1.mono ?_
  clear hk1
  rintro e w2 ⟨v12, rfl, ⟨P, hoP, hmP⟩, hb2⟩
  have HSml := hide (made_sml xs)
  generalize madeL xs = ms at *
  obtain ⟨A2, c2, rfl, pc1, pc2, hsP⟩ := SlR.of_own hoP
  have hPl : P.length ≤ 5 := by rw [hmP.1]; exact HLow.out.len
  have hpc2 : c2 ≤ 9223372036854775807 := by simpa [maxLen] using pc2
  have hb02 := bthen H1.out hb2
  have hk2 := c_Instance A2 P.length c2 P ms which B m d ys gone w2 (by omega) hsP hmP.mods (fun q hq => by have := HLow.out.id_of hq; have := HLow.out.len; unfold okN; omega) hm hd (HA.out.2.2.1.to' hb02) HA.out.2.2.2.2.1 hw hg
  have H2 := hide (And.intro hb02 (And.intro hsP hmP))
  clear hb2 hoP hmP hsP pc2 hb02
  go_wp2_with fail
  refine hk2.mono ?_
  clear hk2
  rintro e w3 ⟨hb3, ⟨-, rfl⟩ | ⟨hne, r, rfl, hcr⟩⟩
  · have HE := hide (balloc (bthen H2.out.1 hb3) (.cells (cC zCR).toArray 45))
    clear hb3
    go_wp2_with fail
    go_ret
    exact ⟨rfl, HE.out⟩
  have HCL := hide (inst_low HLow.out hne which ys gone)
  have HCS := hide (show Sml (instC ms which ys gone).changes from given_sml _ _)
  have HIC := hide (show (0 ≤ (instC ms which ys gone).x ∧ (instC ms which ys gone).x ≤ 1999) ∧ 0 ≤ (instC ms which ys gone).y ∧ (instC ms which ys gone).y ≤ 1999 by
    have h1 := pk_range which 2000 (by omega)
    have h2 := pk_range gone 2000 (by omega)
    show (0 ≤ pk which 2000 ∧ pk which 2000 ≤ 1999) ∧ 0 ≤ pk gone 2000 ∧ pk gone 2000 ≤ 1999
    omega)
  generalize instC ms which ys gone = c at *
  clear hne
  obtain ⟨p, hpm, hpP, hpl⟩ : ∃ p : Nat, c.mod = (p : Int) + 1 ∧ p < P.length ∧ p < ms.length := by
    have := HCL.out.mod
    have e := H2.out.2.2.1
    exact ⟨(c.mod - 1).toNat, by omega, by omega, by omega⟩
  obtain ⟨code, rm, px, py, ra, rn, rcap, ra2, rn2, rc2⟩ := r
  have hcr' := hcr
  obtain ⟨⟨e1, e2, e3, e4⟩, -, -⟩ := hcr'
  simp only at e1 e2 e3 e4
  rw [hpm] at e2
  subst e2
  obtain ⟨r, hre⟩ : ∃ r : CR, r = ⟨code, (p : Int) + 1, px, py, ra, rn, rcap, ra2, rn2, rc2⟩ := ⟨_, rfl⟩
  have gC := Blk.new w3 45 [.int .i64 code, .int .i64 ((p : Int) + 1), .int .i64 px, .int .i64 py, .slice ra rn rcap, .slice ra2 rn2 rc2]
  have hb34 := balloc (Below.refl w3.heap.size w3) (.cells #[.int .i64 code, .int .i64 ((p : Int) + 1), .int .i64 px, .int .i64 py, .slice ra rn rcap, .slice ra2 rn2 rc2] 45)
  have hcr4 := hcr.to hb34
  have hb24 := bthen hb3 hb34
  have HP := hide (And.intro hpm (And.intro hpl (And.intro e1 (And.intro e3 e4))))
  have hsP4 := H2.out.2.1.to' hb24
  have hmP4 := H2.out.2.2.mods.to hb24
  have H4 : Hid (∀ W, Below (w3.alloc (.cells #[.int .i64 code, .int .i64 ((p : Int) + 1), .int .i64 px, .int .i64 py, .slice ra rn rcap, .slice ra2 rn2 rc2] 45)).heap.size (w3.alloc (.cells #[.int .i64 code, .int .i64 ((p : Int) + 1), .int .i64 px, .int .i64 py, .slice ra rn rcap, .slice ra2 rn2 rc2] 45)) W →
      (SlR W W.heap.size 2 A2 P.length (P.flatMap cM) ∧ Mods W P ms) ∧ (CpR W ⟨code, (p : Int) + 1, px, py, ra, rn, rcap, ra2, rn2, rc2⟩ c ∧ Blk W w3.heap.size 45 [.int .i64 code, .int .i64 ((p : Int) + 1), .int .i64 px, .int .i64 py, .slice ra rn rcap, .slice ra2 rn2 rc2]) ∧ Below w.heap.size w W) := hide fun W hW =>
    ⟨⟨hsP4.to' hW, hmP4.to hW⟩, ⟨hcr4.to hW, gC.below hW gC.lt⟩, bthen (bthen H2.out.1 hb24) hW⟩
  clear hcr hb3 hb34 hcr4 hb24 hsP4 hmP4 gC hpm e1 e3 e4 hre r
  go_upto_region 6 with (fail)
  generalize w3.alloc (.cells #[.int .i64 code, .int .i64 ((p : Int) + 1), .int .i64 px, .int .i64 py, .slice ra rn rcap, .slice ra2 rn2 rc2] 45) = w4 at *
  generalize w3.heap.size = b13 at *
  have hk8 := c_lpick other (P.length : Int) w4 hot.1 hot.2 (by omega) (by omega)
  obtain ⟨r, hr8, hrP⟩ : ∃ r : Nat, pk other (P.length : Int) = (r : Int) ∧ r < P.length := by
    have := pk_range other (P.length : Int) (by omega)
    exact ⟨(pk other (P.length : Int)).toNat, by omega, by omega⟩
  rw [hr8] at hk8
  have hrm : r < ms.length := by have := H2.out.2.2.1; omega
  have HRM := hide hrm
  clear hr8 hrm
  go_wp2_with fail
  refine hk8.mono ?_
  clear hk8
  rintro e w4' ⟨rfl, rfl⟩
  go_upto_region 9 with (fail)
  obtain ⟨iv, hiv⟩ : ∃ iv : Int, iv = 1 + (r : Int) := ⟨_, rfl⟩
  rw [← hiv]
  have hiv1 : 1 ≤ iv := by omega
  have hiv5 : iv ≤ 5 := by omega
  have HIV := hide (show iv = (r : Int) + 1 by omega)
  clear hiv
  have hk9 := c_Given C k f zs iv w4 hk (HA.out.2.2.2.1.to' (H4.out w4 (Below.refl _ _)).2.2) HA.out.2.2.2.2.2 (by unfold okN; omega)
  go_wp2_with fail
  refine hk9.mono ?_
  clear hk9
  rintro e w5 ⟨v52, rfl, ho5, hb5⟩
  obtain ⟨A18, c18, rfl, g1, g2, g3⟩ := SlR.of_own ho5
  have hGok := given_ok iv (by omega) zs
  generalize givenL iv zs = G at *
  have hGl := itsOk_len hGok.1
  have g2' : c18 ≤ 9223372036854775807 := by simpa [maxLen] using g2
  have gN := Blk.new w5 27 [.int .i64 iv, .slice A18 G.length c18]
  have hb56 := balloc (Below.refl w5.heap.size w5) (.cells #[.int .i64 iv, .slice A18 G.length c18] 27)
  have sN := g3.to' hb56
  have hb46 := bthen hb5 hb56
  have H6 : Hid (∀ W, Below (w5.alloc (.cells #[.int .i64 iv, .slice A18 G.length c18] 27)).heap.size (w5.alloc (.cells #[.int .i64 iv, .slice A18 G.length c18] 27)) W →
      (SlR W W.heap.size 2 A2 P.length (P.flatMap cM) ∧ Mods W P ms) ∧ (CpR W ⟨code, (p : Int) + 1, px, py, ra, rn, rcap, ra2, rn2, rc2⟩ c ∧ Blk W b13 45 [.int .i64 code, .int .i64 ((p : Int) + 1), .int .i64 px, .int .i64 py, .slice ra rn rcap, .slice ra2 rn2 rc2]) ∧
        (Blk W w5.heap.size 27 [.int .i64 iv, .slice A18 G.length c18] ∧ SlR W W.heap.size 6 A18 G.length (G.flatMap cI)) ∧ Below w.heap.size w W) := hide fun W hW => by
    obtain ⟨h1, h2, h4⟩ := H4.out W (bthen hb46 hW)
    exact ⟨h1, h2, ⟨gN.below hW gN.lt, sN.to' hW⟩, h4⟩
  have HN := hide (And.intro g1 g2')
  clear g1 g2 g2' g3 gN sN hb5 hb56 hb46 ho5 H4
  have HGN := hide (And.intro hGok.1 (fun s hs h2 => (hGok.2 s hs h2).2 : ∀ s ∈ G, s.kind = 2 → 1 ≤ s.mod ∧ s.mod < iv))
  have hnxt := HLow.out.set (next := ⟨iv, G⟩) HIV.out hGok.1 (fun s hs h2 => (hGok.2 s hs h2).2)
  have HNL := hide hnxt
  clear hGok hnxt
  have hlm : ∀ q ∈ ms, q.items.length ≤ 1000000 := fun q hq => by have := itsOk_len (HLow.out.ok q hq); omega
  have HLM := hide hlm
  clear hlm
  go_upto_region 10 with (fail)
  generalize w5.alloc (.cells #[.int .i64 iv, .slice A18 G.length c18] 27) = w6 at *
  generalize w5.heap.size = b18 at *
  obtain ⟨⟨sl, sm⟩, ⟨sc, gc⟩, ⟨gn, sn⟩, hbw⟩ := H6.out w6 (Below.refl _ _)
  obtain ⟨n0, n1⟩ := gn.two
  have ln := gn.lt
  have hk1 := c_Replace A2 P.length c2 P ms ⟨iv, A18, G.length, c18⟩ ⟨iv, G⟩ w6 (by omega) sl sm HLM.out (by show G.length ≤ _; omega) rfl sn
  clear sl sm sc gc gn sn hbw
  go_wp2_with fail
  refine hk1.mono ?_
  clear hk1
  rintro e w7 ⟨hb7, ⟨hv, -⟩ | ⟨-, A7, n7, c7, P7, rfl, t1, t2, t3, t4⟩⟩
  · rw [HLow.out.valid, repl_low HLow.out HRM.out HIV.out, HNL.out.valid] at hv; cases hv
  rw [repl_low HLow.out HRM.out HIV.out] at t4
  have hn7 : n7 = P.length := by
    have h1 := t3.lenm
    have h2 := t4.1
    rw [List.length_set] at h2
    have h3 := H2.out.2.2.1
    omega
  subst hn7
  have hP7 : P7.length = P.length := t3.lenm
  have H7 := hide (And.intro hb7 (And.intro t1 (And.intro t2 (And.intro t3 (And.intro t4 hP7)))))
  clear hb7 t1 t2 t3 t4 n0 n1 ln hP7
  obtain ⟨⟨sl, sm⟩, ⟨sc, gc⟩, ⟨gn, sn⟩, hbw⟩ := H6.out w7 H7.out.1
  obtain ⟨n0, n1, n2, n3, n4, n5⟩ := gc.six
  have ln := gc.lt
  have hk1 := c_Items A2 P.length c2 P ms ⟨code, (p : Int) + 1, px, py, ra, rn, rcap, ra2, rn2, rc2⟩ c w7 (by omega) sl sm sc
  clear sl sm sc gc gn sn hbw
  go_wp2_with fail
  refine hk1.mono ?_
  clear hk1
  rintro e w8 ⟨hb8, ⟨hv, -⟩ | ⟨v21, s, -, hso, rfl, ho8⟩⟩
  · rw [HCL.out.valid HLow.out] at hv; cases hv
  obtain ⟨A8, c8, rfl, t1, t2, t3⟩ := SlR.of_own ho8
  have H8 := hide (And.intro (bthen H7.out.1 hb8) (And.intro hso (And.intro t3 hb8)))
  have hls : s.length ≤ 1000000 := by
    have h0 := hso.1.length_eq
    have h1 := made_len ms c
    have h2 := itsOk_len HCL.out.ok
    have h3 : (itemsOf ms c.mod).length ≤ 12 := by
      rw [HP.out.1, HLow.out.its p HP.out.2.1]
      exact itsOk_len (HLow.out.ok _ (List.getElem_mem _))
    omega
  clear hso t1 t2 t3 ho8 hb8 n0 n1 n2 n3 n4 n5 ln
  have hk2 := calls_b (c_Valid A7 P.length c7 P7 _ w8 (by omega) (H7.out.2.2.2.1.to' H8.out.2.2.2) (H7.out.2.2.2.2.1.to H8.out.2.2.2)) HNL.out.valid
  go_wp2_with fail
  refine hk2.mono ?_
  clear hk2
  rintro e w9 ⟨rfl, hb9⟩
  have HB9 := hide (And.intro (bthen H8.out.1 hb9) (And.intro (bthen H8.out.2.2.2 hb9) (H8.out.2.2.1.to' hb9)))
  clear hb9
  go_wp2_with fail
  go_loopw [23] (fun i wr => ∃ j : Nat, j ≤ P.length ∧ i = .int .i64 j ∧ Below w9.heap.size w9 wr) (fun i _ => P.length - (intOf i).toNat)
  case atStart => exact ⟨0, by omega, rfl, Below.refl _ _⟩
  case round =>
    obtain ⟨j, hj, rfl, hb⟩ := hrel
    by_cases hlt : j < P.length
    · have hjm : j < ms.length := by have := H2.out.2.2.1; omega
      have hj7 : j < P7.length := by have := H7.out.2.2.2.2.2; omega
      have hjs : j < (ms.set r ⟨iv, G⟩).length := by rw [List.length_set]; exact hjm
      have HBR := hide hb
      obtain ⟨⟨sl, sm⟩, ⟨sc, gc⟩, ⟨gn, sn⟩, hbw⟩ := H6.out wr (bthen HB9.out.1 hb)
      have sl7 := H7.out.2.2.2.1.to' (bthen HB9.out.2.1 hb)
      have sm7 := H7.out.2.2.2.2.1.to (bthen HB9.out.2.1 hb)
      obtain ⟨e1, e2, e3, e4⟩ := sm.2 j hlt hjm
      obtain ⟨f1, f2, f3, f4⟩ := sm7.2 j hj7 hjs
      obtain ⟨bm, om, hAe, hbm, z0, z1⟩ := sl.atM (Below.refl _ _) hlt
      obtain ⟨b7, o7, hA7, hb7, y0, y1⟩ := sl7.atM (Below.refl _ _) hj7
      subst hAe
      subst hA7
      have fM := sl.bwM hlt
      have fN := sl7.bwM hj7
      rw [HLow.out.ids j hjm] at e1
      have fB := fun (x : BW wr) => (gn.below x.ok gn.lt).two
      have lB := gn.lt
      have hq1 : P[j].n ≤ 9223372036854775807 := by omega
      have hq2 : P7[j].n ≤ 9223372036854775807 := by omega
      have hjl' : (j : Int) < (P.length : Int) := by omega
      by_cases hjr : j = r
      · subst hjr
        rw [List.getElem_set_self] at f1 f4
        have hS := fun (x : BW wr) => calls_b (c_rSame P7[j] ⟨iv, A18, G.length, c18⟩ G G x.val hq2 (by show G.length ≤ _; omega) (f4.to' x.ok) (sn.to' x.ok)) (b' := true) (by simp [f1])
        generalize P[j] = q at *
        generalize P7[j] = q' at *
        obtain ⟨qi, qa, qn, qc⟩ := q
        obtain ⟨qi', qa', qn', qc'⟩ := q'
        simp only at e1 e2 e3 e4 f1 f2 f3 f4 fM fN hq1 hq2 hS z0 z1 y0 y1
        rw [← HIV.out] at e1
        subst e1
        subst f1
        obtain ⟨fM0, fM1⟩ := split2 fM
        obtain ⟨fN0, fN1⟩ := split2 fN
        obtain ⟨fB0, fB1⟩ := split2 fB
        have HS := hide hS
        have hbm' : bm < wr.heap.size := hbm
        have hb7' : b7 < wr.heap.size := hb7
        clear sl sm sc gc gn sn hbw sl7 sm7 e2 e3 e4 f2 f3 f4 fM fN fB hS z0 z1 y0 y1 hb hjm hj7 hjs
        go_wp2_with fail
        refine wp_region_bw wr (Below.refl _ _) (by kernel_rfl) (by kernel_rfl) ?_
        repeat (go_big_quiet_step ((go_at_call 12; exact bw_call (HS.out _))))
        refine wpQuiet_nil ?_
        intro w10 hb10
        have HB10 := hide (bthen HBR.out hb10)
        clear hb10
        go_wp2_with fail
        go_roundw
        case rel => exact ⟨j + 1, by omega, by go_num, HB10.out⟩
        case measure => simp [intOf]; omega
      · rw [List.getElem_set_ne (fun e => hjr e.symm), HLow.out.ids j hjm] at f1
        rw [List.getElem_set_ne (fun e => hjr e.symm)] at f4
        have hS := fun (x : BW wr) => calls_b (c_rSame P[j] P7[j] ms[j].items ms[j].items x.val hq1 hq2 (e4.to' x.ok) (f4.to' x.ok)) (b' := true) (by simp [e1, f1])
        have hne : ¬ ((j : Int) + 1 = iv) := by rw [HIV.out]; omega
        have hne1 : (((j : Int) + 1) != iv) = true := by simpa using hne
        have hne2 : (((j : Int) + 1) == iv) = false := by simpa using hne
        generalize P[j] = q at *
        generalize P7[j] = q' at *
        obtain ⟨qi, qa, qn, qc⟩ := q
        obtain ⟨qi', qa', qn', qc'⟩ := q'
        simp only at e1 e2 e3 e4 f1 f2 f3 f4 fM fN hq1 hq2 hS z0 z1 y0 y1
        subst e1
        subst f1
        obtain ⟨fM0, fM1⟩ := split2 fM
        obtain ⟨fN0, fN1⟩ := split2 fN
        have HS := hide hS
        have HNE := hide hne
        have hbm' : bm < wr.heap.size := hbm
        have hb7' : b7 < wr.heap.size := hb7
        clear sl sm sc gc gn sn hbw sl7 sm7 e2 e3 e4 f2 f3 f4 fM fN fB hS z0 z1 y0 y1 hb hjm hj7 hjs hne hjr
        go_wp2_with fail
        refine wp_region_bw wr (Below.refl _ _) (by kernel_rfl) (by kernel_rfl) ?_
        repeat (go_big_quiet_step ((go_at_call 12; exact bw_call (HS.out _))))
        refine wpQuiet_nil ?_
        intro w10 hb10
        have HB10 := hide (bthen HBR.out hb10)
        clear hb10
        go_wp2_with fail
        go_roundw
        case rel => exact ⟨j + 1, by omega, by go_num, HB10.out⟩
        case measure => simp [intOf]; omega
    · obtain rfl : P.length = j := by omega
      have hs9 := HB9.out.2.2.to' hb
      have HBR := hide (And.intro (bthen HB9.out.1 hb) (bthen HB9.out.2.1 hb))
      clear hb
      obtain ⟨⟨sl, sm⟩, ⟨sc, gc⟩, ⟨gn, sn⟩, hbw⟩ := H6.out wr HBR.out.1
      obtain ⟨n0, n1, n2, n3, n4, n5⟩ := gc.six
      have ln := gc.lt
      by_cases hpr : (p : Int) + 1 = iv
      · have hpb : ((p : Int) + 1 == iv) = true := by simpa using hpr
        have HE := hide (And.intro hbw hpr)
        clear sl sm sc gc gn sn hbw hs9 hpr
        go_wp2_with fail
        go_ret
        exact ⟨rfl, HE.out.1⟩
      · have hpb : ((p : Int) + 1 == iv) = false := by simpa using hpr
        have hk1 := c_uses A2 P.length c2 P ms iv (by omega) 8 0 A8 s.length c8 s wr (by omega) (by omega) (by omega) sl sm hs9
        have HPR := hide hpr
        cases hu : usesB ms iv 8 s with
        | true =>
          rw [hu] at hk1
          have HU := hide hu
          clear sl sm sc gc gn sn hbw hs9 hpr hu
          go_wp2_with fail
          refine hk1.mono ?_
          clear hk1
          rintro e w10 ⟨rfl, hb10⟩
          have HE := hide (H6.out w10 (bthen HBR.out.1 hb10)).2.2.2
          clear hb10
          go_wp2_with fail
          go_ret
          exact ⟨rfl, HE.out⟩
        | false =>
          rw [hu] at hk1
          have HMM := hide (made_same HLow.out (next := ⟨iv, G⟩) HIV.out HNL.out HCL.out (by rw [HP.out.1]; exact hpr))
          have HPL : Hid (plc (ms.set r ⟨iv, G⟩) 13 s [c.code] c.x c.y = plc ms 13 s [c.code] c.x c.y) := hide (plc_same HLow.out (next := ⟨iv, G⟩) HRM.out HIV.out HNL.out 13 8 ms.length s [c.code] c.x c.y (by have := HLow.out.len; omega) (HLow.out.rkMade HCL.out H8.out.2.1) (by omega) hu)
          clear sl sm sc gc gn sn hbw hs9 hpr hu
          go_wp2_with fail
          refine hk1.mono ?_
          clear hk1 n0 n1 n2 n3 n4 n5 ln
          rintro e w10 ⟨rfl, hb10⟩
          have HB10 := hide (And.intro (bthen HBR.out.1 hb10) (bthen HBR.out.2 hb10))
          clear hb10
          obtain ⟨⟨sl, sm⟩, ⟨sc, gc⟩, ⟨gn, sn⟩, hbw⟩ := H6.out w10 HB10.out.1
          obtain ⟨n0, n1, n2, n3, n4, n5⟩ := gc.six
          have ln := gc.lt
          have hk1 := c_Expand A2 P.length c2 P ms ⟨code, (p : Int) + 1, px, py, ra, rn, rcap, ra2, rn2, rc2⟩ c w10 (by omega) sl sm sc
          clear sl sm sc gc gn sn hbw
          go_wp2_with fail
          refine hk1.mono ?_
          clear hk1
          clear n0 n1 n2 n3 n4 n5 ln
          rintro e w11 ⟨hb11, ⟨hv, -⟩ | ⟨s2, -, hso2, hex⟩⟩
          · rw [HCL.out.valid HLow.out] at hv; cases hv
          obtain rfl : s2 = s := SortOf.uniq (madeM_nd _ _) (List.Perm.refl _) hso2 H8.out.2.1
          clear hso2
          have HB11 := hide (And.intro (bthen HB10.out.1 hb11) (bthen HB10.out.2 hb11))
          clear hb11
          obtain ⟨⟨sl, sm⟩, ⟨sc, gc⟩, ⟨gn, sn⟩, hbw⟩ := H6.out w11 HB11.out.1
          obtain ⟨n0, n1, n2, n3, n4, n5⟩ := gc.six
          have ln := gc.lt
          have hk2 := c_Expand A7 P.length c7 P7 _ ⟨code, (p : Int) + 1, px, py, ra, rn, rcap, ra2, rn2, rc2⟩ c w11 (by omega) (H7.out.2.2.2.1.to' HB11.out.2) (H7.out.2.2.2.2.1.to HB11.out.2) sc
          clear sl sm sc gc gn sn hbw
          rcases hex with ⟨hok, rfl⟩ | ⟨hok, A24, n24, d24, rows24, rfl, u1, u2, u3, u4⟩
          · have HOK := hide hok
            clear hok
            go_wp2_with fail
            refine hk2.mono ?_
            clear hk2 n0 n1 n2 n3 n4 n5 ln
            rintro e w12 ⟨hb12, ⟨hv, -⟩ | ⟨s3, -, hso3, hex3⟩⟩
            · rw [(HCL.out.len (by simp)).valid HNL.out] at hv; cases hv
            rw [HMM.out] at hso3
            obtain rfl : s3 = s2 := SortOf.uniq (madeM_nd _ _) (List.Perm.refl _) hso3 H8.out.2.1
            rw [HPL.out] at hex3
            clear hso3
            rcases hex3 with ⟨-, rfl⟩ | ⟨hok3, -⟩
            · have hk3 := calls_b (c_rSamePlaced none 0 0 [] [] none 0 0 [] [] w12 (by omega) (by omega) SlR.nil SlR.nil (Pls.nil _) (Pls.nil _)) (b' := true) (by simp)
              have HE := hide (H6.out w12 (bthen HB11.out.1 hb12)).2.2.2
              clear hb12
              go_wp2_with fail
              refine hk3.mono ?_
              clear hk3
              rintro e w13 ⟨rfl, hb13⟩
              have HE := hide (bthen HE.out hb13)
              clear hb13
              go_wp2_with fail
              go_ret
              exact ⟨rfl, HE.out⟩
            · rw [HOK.out] at hok3; cases hok3
          · have HOK := hide (And.intro hok (And.intro u1 (And.intro u3 u4)))
            have hn24 : n24 ≤ 9223372036854775807 := by omega
            clear hok u1 u3 u4
            go_wp2_with fail
            refine hk2.mono ?_
            clear hk2 n0 n1 n2 n3 n4 n5 ln
            rintro e w12 ⟨hb12, ⟨hv, -⟩ | ⟨s3, -, hso3, hex3⟩⟩
            · rw [(HCL.out.len (by simp)).valid HNL.out] at hv; cases hv
            rw [HMM.out] at hso3
            obtain rfl : s3 = s2 := SortOf.uniq (madeM_nd _ _) (List.Perm.refl _) hso3 H8.out.2.1
            rw [HPL.out] at hex3
            clear hso3
            rcases hex3 with ⟨hok3, -⟩ | ⟨-, A26, n26, d26, rows26, rfl, t1, t2, t3, t4⟩
            · rw [HOK.out.1] at hok3; cases hok3
            · have hk3 := calls_b (c_rSamePlaced A24 n24 d24 rows24 _ A26 n26 d26 rows26 _ w12 (by omega) (by omega) (HOK.out.2.2.1.to' hb12) t3 (HOK.out.2.2.2.to hb12) t4) (b' := true) (by simp)
              have HE := hide (H6.out w12 (bthen HB11.out.1 hb12)).2.2.2
              clear hb12 t1 t2 t3 t4
              go_wp2_with fail
              refine hk3.mono ?_
              clear hk3
              rintro e w13 ⟨rfl, hb13⟩
              have HE := hide (bthen HE.out hb13)
              clear hb13
              go_wp2_with fail
              go_ret
              exact ⟨rfl, HE.out⟩
end Go.Proofs.Ytncdombfhcfobaa
