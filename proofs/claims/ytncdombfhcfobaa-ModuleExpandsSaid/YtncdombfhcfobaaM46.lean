/- ModuleExpands: what the law's function does. -/
import Derived.Test.YtncdombfhcfobaaM42
import Derived.Test.YtncdombfhcfobaaM44
import Derived.Test.YtncdombfhcfobaaRt
namespace Go.Proofs.Ytncdombfhcfobaa
open Go.RowKit
theorem sml_made2 {ms : List Mo} (hm : ∀ n, Sml (itemsOf ms n)) {c : Cp} (hc : Sml c.changes) {s : List It} (hs : SortOf (madeM ms c) s) : Sml s := fun t ht => by
  rcases mem_madeM (hs.1.mem_iff.1 ht) with h | h
  · exact hc t h
  · exact hm _ t h
theorem LexLt.parts {p q : List Int} (h : LexLt p q) : ∃ k, ∃ (h1 : k < p.length) (h2 : k < q.length), (∀ j (a : j < k), p[j] = q[j]) ∧ p[k] < q[k] := by
  obtain ⟨pre, a, b, u, v, rfl, rfl, hab⟩ := h
  refine ⟨pre.length, by simp, by simp, fun j hj => ?_, by simpa using hab⟩
  rw [List.getElem_append_left hj, List.getElem_append_left hj]
theorem expB_shift (dx dy : Int) (P : List (Pl × Int)) : expB (P.map (shP dx dy)) = (expB P).map (fun q => ⟨q.path, q.x + dx, q.y + dy, q.text⟩) := by
  unfold expB
  rw [List.filter_map, List.map_map, List.map_map]
  rfl
theorem expB_len (P : List (Pl × Int)) : (expB P).length ≤ P.length := by
  unfold expB
  simpa using List.length_filter_le _ P
theorem expB_mem {P : List (Pl × Int)} {q : Pl} (h : q ∈ expB P) : ∃ k, (q, k) ∈ P := by
  unfold expB at h
  obtain ⟨x, hx, rfl⟩ := List.mem_map.1 h
  exact ⟨x.2, (List.mem_filter.1 hx).1⟩
/-- what an instance that is moved comes to -/
theorem exp_shift {ms : List Mo} (h : Low ms) (hm : ∀ n, Sml (itemsOf ms n)) {s : List It} (hk : Rk ms.length s) (hs : Sml s) {code x y dx dy : Int} (hx : 0 ≤ x ∧ x ≤ 1999) (hy : 0 ≤ y ∧ y ≤ 1999) (hdx : 0 ≤ dx ∧ dx < 200) (hdy : 0 ≤ dy ∧ dy < 200)
    (he : expOk (plc ms 13 s [code] x y) = true) : expOk (plc ms 13 s [code] (x + dx) (y + dy)) = true := by
  have hl := h.len
  unfold expOk at he ⊢
  simp only [Bool.and_eq_true, decide_eq_true_eq, List.all_eq_true] at he ⊢
  refine ⟨by rw [plc_shift, List.length_map]; exact he.1, fun q hq => ?_⟩
  have := plc_bd h hm 13 ms.length s [code] (x + dx) (y + dy) (by omega) hk hs q hq
  unfold plB
  simp only [Bool.and_eq_true, inB_iff]
  omega
theorem exp_bx {ms : List Mo} (h : Low ms) {s : List It} (hk : Rk ms.length s) {code x y : Int} (he : expOk (plc ms 13 s [code] x y) = true) : bxS ms 8 s = (expB (plc ms 13 s [code] x y)).length := by
  have hl := h.len
  rw [cnt_plc]
  refine bx_eq h 8 13 ms.length s (by omega) hk (by omega) (by omega) (by omega) ?_
  rw [← cnt_plc ms 13 s [code] x y]
  unfold expOk at he
  simp only [Bool.and_eq_true, decide_eq_true_eq] at he
  exact Nat.le_trans (expB_len _) he.1
theorem exp_path {ms : List Mo} {s : List It} {code x y : Int} {q : Pl} (h : q ∈ expB (plc ms 13 s [code] x y)) : ∃ i u, q.path = code :: i :: u := by
  obtain ⟨k, hq⟩ := expB_mem h
  obtain ⟨t, _, u, e⟩ := plc_path ms 13 s [code] x y _ hq
  exact ⟨t.id, u, e⟩
theorem exp_bd {ms : List Mo} (h : Low ms) (hm : ∀ n, Sml (itemsOf ms n)) {s : List It} (hk : Rk ms.length s) (hs : Sml s) {code x y : Int} {q : Pl} (hq : q ∈ expB (plc ms 13 s [code] x y)) : (x ≤ q.x ∧ q.x ≤ x + 294) ∧ y ≤ q.y ∧ q.y ≤ y + 294 := by
  obtain ⟨k, hq⟩ := expB_mem hq
  have hl := h.len
  have := plc_bd h hm 13 ms.length s [code] x y (by omega) hk hs _ hq
  dsimp only at this
  omega
set_option linter.unusedSimpArgs false in
set_option maxRecDepth 100000 in
set_option maxHeartbeats 16000000 in
theorem c_Expands (A B : Option Addr) (n cc m d : Nat) (rows : List XR) (xs : List (List I3)) (ys : List I3) (gone which : Int) (by' : I2) (w0 : World) (hn : n ≤ 9223372036854775807) (hr0 : SlR w0 w0.heap.size 1 A n (rows.flatMap cX)) (hx0 : Xss w0 rows xs) (hm : m ≤ d) (hd : d ≤ 9223372036854775807) (hs0 : SlR w0 w0.heap.size 3 B m (ys.flatMap c3))
    (hy : ∀ a ∈ ys, ok3 a) (hg : okN gone) (hw : okN which) (hby : okN by'.1 ∧ okN by'.2) :
    Calls Try.prog 5 #[.slice A n cc, .slice B m d, .int .i64 gone, .int .i64 which, .agg #[.int .i64 by'.1, .int .i64 by'.2]] w0 fun e w' => e = .returned (.bool true) ∧ Below w0.heap.size w0 w' := by
  obtain ⟨by1, by2⟩ := by'
  simp only at hby
  have hb0 := balloc (Below.refl w0.heap.size w0) (.cells #[.int .i64 by1, .int .i64 by2] 56)
  have gB : Blk (w0.alloc (.cells #[.int .i64 by1, .int .i64 by2] 56)) w0.heap.size 56 [.int .i64 by1, .int .i64 by2] := Blk.new w0 56 [.int .i64 by1, .int .i64 by2]
  have hr := hr0.to' hb0
  have hx := hx0.to hb0
  have hs := hs0.to' hb0
  obtain ⟨w, hw0⟩ : ∃ W, W = w0.alloc (.cells #[.int .i64 by1, .int .i64 by2] 56) := ⟨_, rfl⟩
  rw [← hw0] at hr hx hs gB hb0
  have HB0 := hide (And.intro hb0 gB)
  clear hr0 hx0 hs0 hb0 gB
  have HA := hide (And.intro hr (And.intro hx (And.intro hs hy)))
  have HLow := hide (made_low xs)
  clear hr hx hs hy
  go_enter Try.func5, Try.ntmps5
  go_upto_region 1 with (fail)
  rw [← hw0]
  clear hw0
  go_wp2_with fail
  refine (c_sane w).mono ?_
  rintro e w1 ⟨rfl, hb1⟩
  have hk1 := c_Made A n cc rows xs w1 hn (HA.out.1.to' hb1) (HA.out.2.1.to hb1)
  have H1 := hide hb1
  clear hb1
  go_wp2_with fail
  refine hk1.mono ?_
  clear hk1
  rintro e w2 ⟨v12, rfl, ⟨P, hoP, hmP⟩, hb2⟩
  have HSml := hide (made_sml xs)
  generalize madeL xs = ms at *
  obtain ⟨A2, c2, rfl, pc1, pc2, hsP⟩ := SlR.of_own hoP
  have hPl : P.length ≤ 5 := by rw [hmP.1]; exact HLow.out.len
  have hpc2 : c2 ≤ 9223372036854775807 := by simpa [maxLen] using pc2
  have hb02 := bthen H1.out hb2
  have hk2 := c_Instance A2 P.length c2 P ms which B m d ys gone w2 (by omega) hsP hmP.mods (fun q hq => by have := HLow.out.id_of hq; have := HLow.out.len; unfold okN; omega) hm hd (HA.out.2.2.1.to' hb02) HA.out.2.2.2 hw hg
  have H2 := hide (And.intro hb02 (And.intro hsP hmP))
  clear hb2 hoP hmP hsP pc2 hb02
  go_wp2_with fail
  refine hk2.mono ?_
  clear hk2
  rintro e w3 ⟨hb3, ⟨-, rfl⟩ | ⟨hne, r, rfl, hcr⟩⟩
  · have HE := hide (balloc (bthen H2.out.1 hb3) (.cells (cC zCR).toArray 45))
    clear hb3
    go_wp2_with fail
    go_ret
    exact ⟨rfl, bthen HB0.out.1 HE.out⟩
  have HCL := hide (inst_low HLow.out hne which ys gone)
  have HCS := hide (show Sml (instC ms which ys gone).changes from given_sml _ _)
  have HIC := hide (show (0 ≤ (instC ms which ys gone).x ∧ (instC ms which ys gone).x ≤ 1999) ∧ 0 ≤ (instC ms which ys gone).y ∧ (instC ms which ys gone).y ≤ 1999 by
    have h1 := pk_range which 2000 (by omega)
    have h2 := pk_range gone 2000 (by omega)
    show (0 ≤ pk which 2000 ∧ pk which 2000 ≤ 1999) ∧ 0 ≤ pk gone 2000 ∧ pk gone 2000 ≤ 1999
    omega)
  generalize instC ms which ys gone = c at *
  clear hne
  obtain ⟨p, hpm, hpP, hpl⟩ : ∃ p : Nat, c.mod = (p : Int) + 1 ∧ p < P.length ∧ p < ms.length := by
    have := HCL.out.mod
    have e := H2.out.2.2.1
    exact ⟨(c.mod - 1).toNat, by omega, by omega, by omega⟩
  obtain ⟨code, rm, px, py, ra, rn, rcap, ra2, rn2, rc2⟩ := r
  have hcr' := hcr
  obtain ⟨⟨e1, e2, e3, e4⟩, -, -⟩ := hcr'
  simp only at e1 e2 e3 e4
  rw [hpm] at e2
  subst e2
  obtain ⟨r, hre⟩ : ∃ r : CR, r = ⟨code, (p : Int) + 1, px, py, ra, rn, rcap, ra2, rn2, rc2⟩ := ⟨_, rfl⟩
  have gC := Blk.new w3 45 [.int .i64 code, .int .i64 ((p : Int) + 1), .int .i64 px, .int .i64 py, .slice ra rn rcap, .slice ra2 rn2 rc2]
  have hb34 := balloc (Below.refl w3.heap.size w3) (.cells #[.int .i64 code, .int .i64 ((p : Int) + 1), .int .i64 px, .int .i64 py, .slice ra rn rcap, .slice ra2 rn2 rc2] 45)
  have hcr4 := hcr.to hb34
  have hb24 := bthen hb3 hb34
  have HP := hide (And.intro hpm (And.intro hpl (And.intro e1 (And.intro e3 e4))))
  have hsP4 := H2.out.2.1.to' hb24
  have hmP4 := H2.out.2.2.mods.to hb24
  have H4 : Hid (∀ W, Below (w3.alloc (.cells #[.int .i64 code, .int .i64 ((p : Int) + 1), .int .i64 px, .int .i64 py, .slice ra rn rcap, .slice ra2 rn2 rc2] 45)).heap.size (w3.alloc (.cells #[.int .i64 code, .int .i64 ((p : Int) + 1), .int .i64 px, .int .i64 py, .slice ra rn rcap, .slice ra2 rn2 rc2] 45)) W →
      (SlR W W.heap.size 2 A2 P.length (P.flatMap cM) ∧ Mods W P ms) ∧ (CpR W ⟨code, (p : Int) + 1, px, py, ra, rn, rcap, ra2, rn2, rc2⟩ c ∧ Blk W w3.heap.size 45 [.int .i64 code, .int .i64 ((p : Int) + 1), .int .i64 px, .int .i64 py, .slice ra rn rcap, .slice ra2 rn2 rc2]) ∧ Below w.heap.size w W) := hide fun W hW =>
    ⟨⟨hsP4.to' hW, hmP4.to hW⟩, ⟨hcr4.to hW, gC.below hW gC.lt⟩, bthen (bthen H2.out.1 hb24) hW⟩
  clear hcr hb3 hb34 hcr4 hb24 hsP4 hmP4 gC hpm e1 e3 e4 hre r
  go_upto_region 6 with (fail)
  generalize w3.alloc (.cells #[.int .i64 code, .int .i64 ((p : Int) + 1), .int .i64 px, .int .i64 py, .slice ra rn rcap, .slice ra2 rn2 rc2] 45) = w4 at *
  generalize w3.heap.size = b13 at *
  have HFB := hide (fun (W : World) (hW : Below w.heap.size w W) => HB0.out.2.below hW HB0.out.2.lt)
  obtain ⟨⟨sl, sm⟩, ⟨sc, gc⟩, hbw⟩ := H4.out w4 (Below.refl _ _)
  obtain ⟨n0, n1, n2, n3, n4, n5⟩ := gc.six
  have ln := gc.lt
  have hk1 := c_Items A2 P.length c2 P ms ⟨code, (p : Int) + 1, px, py, ra, rn, rcap, ra2, rn2, rc2⟩ c w4 (by omega) sl sm sc
  clear sl sm sc gc hbw
  go_wp2_with fail
  refine hk1.mono ?_
  clear hk1
  rintro e w5 ⟨hb5, ⟨hv, -⟩ | ⟨v15, s, -, hso, rfl, ho5⟩⟩
  · rw [HCL.out.valid HLow.out] at hv; cases hv
  obtain ⟨A8, c8, rfl, t1, t2, t3⟩ := SlR.of_own ho5
  have H5 := hide (And.intro hb5 (And.intro hso t3))
  have hls : s.length ≤ 1000000 := by
    have h0 := hso.1.length_eq
    have h1 := made_len ms c
    have h2 := itsOk_len HCL.out.ok
    have h3 : (itemsOf ms c.mod).length ≤ 12 := by
      rw [HP.out.1, HLow.out.its p HP.out.2.1]
      exact itsOk_len (HLow.out.ok _ (List.getElem_mem _))
    omega
  clear hso t1 t2 t3 ho5 hb5 n0 n1 n2 n3 n4 n5 ln
  obtain ⟨⟨sl, sm⟩, ⟨sc, gc⟩, hbw⟩ := H4.out w5 H5.out.1
  obtain ⟨n0, n1, n2, n3, n4, n5⟩ := gc.six
  have ln := gc.lt
  have hk1 := c_Expand A2 P.length c2 P ms ⟨code, (p : Int) + 1, px, py, ra, rn, rcap, ra2, rn2, rc2⟩ c w5 (by omega) sl sm sc
  clear sl sm sc gc hbw
  go_wp2_with fail
  refine hk1.mono ?_
  clear hk1
  clear n0 n1 n2 n3 n4 n5 ln
  rintro e w6 ⟨hb6, ⟨hv, -⟩ | ⟨s2, -, hso2, hex⟩⟩
  · rw [HCL.out.valid HLow.out] at hv; cases hv
  obtain rfl : s2 = s := SortOf.uniq (madeM_nd _ _) (List.Perm.refl _) hso2 H5.out.2.1
  clear hso2
  have HRk := hide (HLow.out.rkMade HCL.out H5.out.2.1)
  have HB6 := hide (And.intro (bthen H5.out.1 hb6) (H5.out.2.2.to' hb6))
  clear hb6
  rcases hex with ⟨hok, rfl⟩ | ⟨hok, A17, n17, d17, rows17, rfl, u1, u2, u3, u4⟩
  · have HE := hide (bthen HB0.out.1 (H4.out w6 HB6.out.1).2.2)
    have HOK := hide hok
    clear hok
    go_wp2_with fail
    go_ret
    exact ⟨rfl, HE.out⟩
  have hps := exp_bx HLow.out HRk.out hok
  have hl17 := u3.lenP
  have hlp := u4.1
  have hlex := plc_lex HLow.out 13 s2 [c.code] c.x c.y (fun t ht => (HRk.out t ht).1) (H5.out.2.1.lt (madeM_nd _ _))
  have hpth : ∀ q ∈ expB (plc ms 13 s2 [c.code] c.x c.y), ∃ i u, q.path = c.code :: i :: u := fun q hq => exp_path hq
  have hbx : bxS ms 8 s2 = n17 := by omega
  have hn17 : n17 ≤ 200 := by
    have h1 := hok
    unfold expOk at h1
    simp only [Bool.and_eq_true, decide_eq_true_eq] at h1
    have h2 := expB_len (plc ms 13 s2 [c.code] c.x c.y)
    omega
  have HSH := hide (fun (dx dy : Int) (h1 : 0 ≤ dx ∧ dx < 200) (h2 : 0 ≤ dy ∧ dy < 200) => (And.intro (exp_shift HLow.out HSml.out HRk.out (sml_made2 HSml.out HCS.out H5.out.2.1) HIC.out.1 HIC.out.2 h1 h2 hok) (show expB (plc ms 13 s2 [c.code] (c.x + dx) (c.y + dy)) = (expB (plc ms 13 s2 [c.code] c.x c.y)).map (fun q => ⟨q.path, q.x + dx, q.y + dy, q.text⟩) by rw [plc_shift, expB_shift])))
  have HBD := hide (show ∀ q ∈ expB (plc ms 13 s2 [c.code] c.x c.y), (0 ≤ q.x ∧ q.x ≤ 4000) ∧ 0 ≤ q.y ∧ q.y ≤ 4000 from fun q hq => by
    have h1 := exp_bd HLow.out HSml.out HRk.out (sml_made2 HSml.out HCS.out H5.out.2.1) hq
    have h2 := HIC.out
    omega)
  generalize expB (plc ms 13 s2 [c.code] c.x c.y) = ps at *
  have HLX := hide (And.intro hlex (And.intro hpth (And.intro hlp hl17)))
  have HU := hide (And.intro u3 u4)
  have hd17 : n17 ≤ 9223372036854775807 := by omega
  clear hlex hpth hlp hl17 hps u1 u2 u3 u4 hok
  obtain ⟨⟨sl, sm⟩, ⟨sc, gc⟩, hbw⟩ := H4.out w6 HB6.out.1
  have hk1 := c_boxes A2 P.length c2 P ms (by omega) HLow.out.nd 8 0 A8 s2.length c8 s2 w6 (by omega) (by omega) (by omega) sl sm HB6.out.2
  rw [hbx] at hk1
  clear hbx
  clear sl sm sc gc hbw
  go_wp2_with fail
  refine hk1.mono ?_
  clear hk1
  rintro e w7 ⟨rfl, hb7⟩
  have HB7 := hide (And.intro (bthen HB6.out.1 hb7) (And.intro (HU.out.1.to' hb7) (HU.out.2.to hb7)))
  clear hb7
  go_wp2_with fail
  go_loopw [19] (fun i wr => ∃ j : Nat, j ≤ n17 ∧ i = .int .i64 j ∧ Below w7.heap.size w7 wr) (fun i _ => n17 - (intOf i).toNat)
  case atStart => exact ⟨0, by omega, rfl, Below.refl _ _⟩
  case round =>
    obtain ⟨j, hj, rfl, hb⟩ := hrel
    obtain ⟨wo, rfl⟩ : ∃ W : World, W = wr := ⟨_, rfl⟩
    by_cases hlt : j < n17
    · have hjr : j < rows17.length := by have := HLX.out.2.2.2; omega
      have hjp : j < ps.length := by have := HLX.out.2.2.1; have := HLX.out.2.2.2; omega
      have HBR := hide hb
      have sl := HB7.out.2.1.to' hb
      have sp := HB7.out.2.2.to hb
      obtain ⟨bA', oA', hAe, hbA, z0, z1, z2, z3⟩ := sl.atP (Below.refl _ _) hjr
      obtain ⟨-, e2, e3, e4⟩ := sp.2 j hjr hjp
      obtain ⟨pi, pu, hpe⟩ := HLX.out.2.1 ps[j] (List.getElem_mem hjp)
      have hnl := e4.lenN
      have hn2 : 2 ≤ rows17[j].n := by rw [← hnl, hpe]; simp
      have h0l : 0 < ps[j].path.length := by omega
      obtain ⟨bp, op, hPe, hbp, y0⟩ := e4.atN (Below.refl _ _) h0l
      have hc0 : ps[j].path[0] = code := by
        have : ps[j].path[0]? = some c.code := by rw [hpe]; rfl
        rw [List.getElem?_eq_getElem h0l] at this
        injection this with this
        rw [this, HP.out.2.2.1]
      rw [hc0, Nat.add_zero] at y0
      subst hAe
      have fP := sl.bwP hjr
      have fy := fun (x : BW wo) => (x.ok.cell (p := ⟨bp, op, none⟩) hbp).trans y0
      have gc := fun (x : BW wo) => ((H4.out x.val (bthen (bthen HB7.out.1 hb) x.ok)).2.1.2.six).1
      have hcl := ((H4.out wo (bthen HB7.out.1 hb)).2.1.2).lt
      have hjl' : (j : Int) < (n17 : Int) := by omega
      generalize hrow : rows17[j] = r at z0 z1 z2 z3 e2 e3 e4 hnl hn2 fP hPe
      have HRow := hide hrow
      obtain ⟨ra', rn', rc', rx', ry', rt'⟩ := r
      simp only at z0 z1 z2 z3 e2 e3 e4 hnl hn2 fP hPe
      subst hPe
      obtain ⟨fP0, fP1, fP2, fP3⟩ := fP
      have hn2' : ¬ ((rn' : Nat) : Int) < 2 := by omega
      have hrb : rn' ≤ 9223372036854775807 := by omega
      have hn0' : (0 : Int) < ((rn' : Nat) : Int) := by omega
      clear hrow sl sp e2 e4 hpe hnl h0l hc0 z1 z2 z3 hb
      go_wp2_with fail
      refine wp_region_bw wo (Below.refl _ _) (by kernel_rfl) (by kernel_rfl) ?_
      repeat (go_big_quiet_step (fail))
      refine wpQuiet_nil ?_
      intro w8 hb8
      have HB8 := hide (bthen HBR.out hb8)
      clear fP0 fP1 fP2 fP3 fy gc hcl z0 y0 hb8 e3 hbA hbp
      by_cases hj0 : j = 0
      · subst hj0
        go_wp2_with fail
        go_roundw
        case rel => exact ⟨1, by omega, by go_num, HB8.out⟩
        case measure => simp [intOf]; omega
      · obtain ⟨j', hjj⟩ : ∃ j' : Nat, j = j' + 1 := ⟨j - 1, by omega⟩
        have hj0' : ((j : Int) == 0) = false := by simpa using hj0
        have hjm : (j : Int) - 1 = (j' : Int) := by omega
        have hjl2 : (j' : Int) < (n17 : Int) := by omega
        have sl := HB7.out.2.1.to' HB8.out
        have sp := HB7.out.2.2.to HB8.out
        have hjr' : j' < rows17.length := by omega
        have hjp' : j' < ps.length := by omega
        have hlx : LexLt ps[j'].path ps[j].path := List.pairwise_iff_getElem.1 HLX.out.1 j' j hjp' hjp (by omega)
        obtain ⟨kd, hk1, hk2, hkeq, hklt⟩ := hlx.parts
        obtain ⟨bA2, oA2, hAe, hbA, z0, z1, z2, z3⟩ := sl.atP (Below.refl _ _) hjr
        cases hAe
        have fP := (sl.bwP hjr).1
        have fQ := (sl.bwP hjr').1
        obtain ⟨-, -, -, e4⟩ := sp.2 j hjr hjp
        obtain ⟨-, -, -, f4⟩ := sp.2 j' hjr' hjp'
        have hnl := e4.lenN
        have hml := f4.lenN
        obtain ⟨bq, oq, hQe, hbq, -⟩ := f4.atN (Below.refl _ _) (k := kd) hk1
        have hcj : ∀ (W : World) (hW : Below w8.heap.size w8 W) (t : Nat) (ht : t < ps[j].path.length), W.cell? ⟨bp, op + t, none⟩ = some (.int .i64 ps[j].path[t]) := fun W hW t ht => by
          obtain ⟨b', o', ee, -, y⟩ := e4.atN hW ht
          rw [HRow.out] at ee
          cases ee
          exact y
        have hci : ∀ (W : World) (hW : Below w8.heap.size w8 W) (t : Nat) (ht : t < ps[j'].path.length), W.cell? ⟨bq, oq + t, none⟩ = some (.int .i64 ps[j'].path[t]) := fun W hW t ht => by
          obtain ⟨b', o', ee, -, y⟩ := f4.atN hW ht
          rw [hQe] at ee
          cases ee
          exact y
        have hbp8 : bp < w8.heap.size := by
          obtain ⟨b', o', ee, hh, -⟩ := e4.atN (Below.refl _ _) (k := kd) hk2
          rw [HRow.out] at ee
          cases ee
          exact hh
        rw [HRow.out] at fP hnl
        generalize hrow : rows17[j'] = r at fQ hml hQe
        obtain ⟨qa', qn', qc', qx', qy', qt'⟩ := r
        simp only at fP fQ hnl hml hQe
        subst hQe
        generalize ps[j].path = pj at *
        generalize ps[j'].path = pi' at *
        have hki : kd < qn' := by omega
        have hkj : kd < rn' := by omega
        have HCJ := hide (And.intro hcj hci)
        have HKQ := hide (And.intro hkeq hklt)
        have HKK := hide (And.intro hk1 (And.intro hk2 (And.intro hnl hml)))
        have HJJ := hide hjj
        clear hrow hcj hci hkeq hklt hnl hml sl sp e4 f4 hlx hjj z0 z1 z2 z3 hj0
        go_wp2_with fail
        go_loopw [20] (fun kv wi => ∃ t : Nat, t ≤ kd ∧ kv = .int .i64 t ∧ Below w8.heap.size w8 wi) (fun kv _ => kd - (intOf kv).toNat)
        case atStart => exact ⟨0, by omega, rfl, Below.refl _ _⟩
        case round =>
          obtain ⟨t, ht, rfl, hbi⟩ := hrel
          have gP := fun (x : BW wr) => fP ⟨x.val, bthen hbi x.ok⟩
          have gQ := fun (x : BW wr) => fQ ⟨x.val, bthen hbi x.ok⟩
          have htj : t < pj.length := by have := HKK.out; omega
          have hti : t < pi'.length := by have := HKK.out; omega
          have gJ := fun (x : BW wr) => HCJ.out.1 x.val (bthen hbi x.ok) t htj
          have gI := fun (x : BW wr) => HCJ.out.2 x.val (bthen hbi x.ok) t hti
          have htr : (t : Int) < (rn' : Int) := by omega
          have htq : (t : Int) < (qn' : Int) := by omega
          have hbp9 : bp < wr.heap.size := Nat.lt_of_lt_of_le hbp8 hbi.size
          have hbq9 : bq < wr.heap.size := Nat.lt_of_lt_of_le hbq hbi.size
          simp only at gP gQ gJ gI
          have HBI := hide hbi
          by_cases htk : t < kd
          · have HTK := hide htk
            have he : pi'[t] = pj[t] := HKQ.out.1 t htk
            rw [he] at gI
            generalize pj[t] = v at gJ gI
            clear he htj hti hbi
            go_wp2_with fail
            refine wp_region_bw wr (Below.refl _ _) (by kernel_rfl) (by kernel_rfl) ?_
            repeat (go_big_quiet_step (fail))
            refine wpQuiet_nil ?_
            intro w9 hb9
            have HB9 := hide (bthen HBI.out hb9)
            clear hb9
            go_wp2_with fail
            go_roundw
            case rel => exact ⟨t + 1, by have := HTK.out; omega, by go_num, HB9.out⟩
            case measure => have := HTK.out; simp [intOf]; omega
          · obtain rfl : kd = t := by omega
            have hl : pi'[kd] < pj[kd] := HKQ.out.2
            have HL := hide hl
            obtain ⟨v, hv⟩ : ∃ v, v = pj[kd] := ⟨_, rfl⟩
            obtain ⟨u, hu⟩ : ∃ u, u = pi'[kd] := ⟨_, rfl⟩
            rw [← hv] at gJ hl
            rw [← hu] at gI hl
            clear hv hu
            have hvu : (v == u) = false := beq_eq_false_iff_ne.2 (Int.ne_of_gt hl)
            have hvu2 : ¬ v ≤ u := Int.not_le.2 hl
            clear hbi hl
            go_wp2_with fail
            refine wp_region_bw wr (Below.refl _ _) (by kernel_rfl) (by kernel_rfl) ?_
            repeat (go_big_quiet_step (fail))
            refine wpQuiet_nil ?_
            intro w9 hb9
            have hb89 := bthen HBI.out hb9
            have HB9 := hide hb89
            have zP := fP ⟨w9, hb89⟩
            have zQ := fQ ⟨w9, hb89⟩
            have kP := fun (x : BW w9) => fP ⟨x.val, bthen hb89 x.ok⟩
            have kQ := fun (x : BW w9) => fQ ⟨x.val, bthen hb89 x.ok⟩
            have kJ := fun (x : BW w9) => gJ ⟨x.val, bthen hb9 x.ok⟩
            have kI := fun (x : BW w9) => gI ⟨x.val, bthen hb9 x.ok⟩
            simp only at zP zQ kP kQ kJ kI
            have hbp10 : bp < w9.heap.size := Nat.lt_of_lt_of_le hbp8 hb89.size
            have hbq10 : bq < w9.heap.size := Nat.lt_of_lt_of_le hbq hb89.size
            clear gP gQ gJ gI hb9 hb89 hbp9 hbq9
            go_wp2_with fail
            refine wp_region_bw w9 (Below.refl _ _) (by kernel_rfl) (by kernel_rfl) ?_
            repeat (go_big_quiet_step (fail))
            refine wpQuiet_nil ?_
            intro w10 hb10
            have HB10 := hide (bthen HB8.out (bthen HB9.out hb10))
            have HJ1 := hide (show j + 1 ≤ n17 by omega)
            clear hb10
            go_wp2_with fail
            go_roundw
            case rel => exact ⟨j + 1, HJ1.out, by go_num, HB10.out⟩
            case measure => have := HJ1.out; simp [intOf]; omega
    · obtain rfl : n17 = j := by omega
      have HBR := hide (bthen HB7.out.1 hb)
      have HBW := hide hb
      have HBS := hide (show w7.heap.size ≤ wo.heap.size from hb.size)
      have HB7' := hide (And.intro (HB7.out.2.1.to' hb) (HB7.out.2.2.to hb))
      clear hb
      obtain ⟨⟨sl, sm⟩, ⟨sc, gc⟩, hbw⟩ := H4.out wo HBR.out
      obtain ⟨n0, n1, n2, n3, n4, n5⟩ := gc.six
      have ln := gc.lt
      have gD := Blk.new wo 45 [.int .i64 code, .int .i64 ((p : Int) + 1), .int .i64 px, .int .i64 py, .slice ra rn rcap, .slice ra2 rn2 rc2]
      have hb10 := balloc (Below.refl wo.heap.size wo) (.cells #[.int .i64 code, .int .i64 ((p : Int) + 1), .int .i64 px, .int .i64 py, .slice ra rn rcap, .slice ra2 rn2 rc2] 45)
      have H10 := hide (And.intro (bthen HBW.out hb10) (And.intro gD (And.intro (HB7'.out.1.to' hb10) (HB7'.out.2.to hb10))))
      clear gD hb10
      clear sl sm sc gc hbw
      go_upto_region 32 with (fail)
      generalize wo.alloc (.cells #[.int .i64 code, .int .i64 ((p : Int) + 1), .int .i64 px, .int .i64 py, .slice ra rn rcap, .slice ra2 rn2 rc2] 45) = w10 at *
      generalize wo.heap.size = b21 at *
      clear n0 n1 n2 n3 n4 n5 ln
      have hpx : 0 ≤ px ∧ px ≤ 1999 := by have h1 := HIC.out.1; have h2 := HP.out.2.2.2.1; omega
      have hpy : 0 ≤ py ∧ py ≤ 1999 := by have h1 := HIC.out.2; have h2 := HP.out.2.2.2.2; omega
      have hdx := pk_range by1 200 (by omega)
      have hdy := pk_range by2 200 (by omega)
      have HK1 := hide (fun (W : World) => c_lpick by1 200 W hby.1.1 hby.1.2 (by omega) (by omega))
      have HK2 := hide (fun (W : World) => c_lpick by2 200 W hby.2.1 hby.2.2 (by omega) (by omega))
      generalize pk by1 200 = dx at *
      generalize pk by2 200 = dy at *
      have q1 := fun (x : BW w10) => ((H4.out x.val (bthen (bthen HB7.out.1 H10.out.1) x.ok)).2.1.2.six).2.2.1
      have q2 := fun (x : BW w10) => ((HFB.out x.val (bthen (H4.out x.val (bthen (bthen HB7.out.1 H10.out.1) x.ok)).2.2 (Below.refl _ _))).two).1
      have l13 := ((H4.out w10 (bthen HB7.out.1 H10.out.1)).2.1.2).lt
      have l21 := H10.out.2.1.lt
      refine wp_region_bt 9 w10 (Below.refl _ _) (by kernel_rfl) (by kernel_rfl) ?_
      simp only [List.take_succ_cons, List.take_zero, List.drop_succ_cons, List.drop_zero]
      repeat (go_big_quiet_step ((go_at_call 23; exact bw_same (HK1.out _))))
      refine wpQuiet_nil ?_
      intro w11 hb11
      have gD := H10.out.2.1.below hb11 H10.out.2.1.lt
      obtain ⟨d0, d1, d2, d3, d4, d5⟩ := gD.six
      have f2 := gD.free 2
      have ld := gD.lt
      have gD' : Blk (w11.setCell ⟨b21, 2, none⟩ (.int .i64 (px + dx))) b21 45 [.int .i64 code, .int .i64 ((p : Int) + 1), .int .i64 (px + dx), .int .i64 py, .slice ra rn rcap, .slice ra2 rn2 rc2] := gD.set 2 (.int .i64 (px + dx))
      have HB12 := hide (And.intro (bset (bthen H10.out.1 hb11) (p := ⟨b21, 2, none⟩) HBS.out (.int .i64 (px + dx))) gD')
      clear gD gD' hb11 q1 q2
      go_upto_region 33 with (fail)
      generalize w11.setCell ⟨b21, 2, none⟩ (.int .i64 (px + dx)) = w12 at *
      clear d0 d1 d2 d3 d4 d5 f2 ld l13 l21
      have q1 := fun (x : BW w12) => ((H4.out x.val (bthen (bthen HB7.out.1 HB12.out.1) x.ok)).2.1.2.six).2.2.2.1
      have q2 := fun (x : BW w12) => ((HFB.out x.val (bthen (H4.out x.val (bthen (bthen HB7.out.1 HB12.out.1) x.ok)).2.2 (Below.refl _ _))).two).2
      have l13 := ((H4.out w12 (bthen HB7.out.1 HB12.out.1)).2.1.2).lt
      have l21 := HB12.out.2.lt
      refine wp_region_bt 9 w12 (Below.refl _ _) (by kernel_rfl) (by kernel_rfl) ?_
      simp only [List.take_succ_cons, List.take_zero, List.drop_succ_cons, List.drop_zero]
      repeat (go_big_quiet_step ((go_at_call 23; exact bw_same (HK2.out _))))
      refine wpQuiet_nil ?_
      intro w13 hb13
      have gD := HB12.out.2.below hb13 HB12.out.2.lt
      obtain ⟨d0, d1, d2, d3, d4, d5⟩ := gD.six
      have f3 := gD.free 3
      have ld := gD.lt
      have gD' : Blk (w13.setCell ⟨b21, 3, none⟩ (.int .i64 (py + dy))) b21 45 [.int .i64 code, .int .i64 ((p : Int) + 1), .int .i64 (px + dx), .int .i64 (py + dy), .slice ra rn rcap, .slice ra2 rn2 rc2] := gD.set 3 (.int .i64 (py + dy))
      have HB14 := hide (And.intro (bset (bthen HB12.out.1 hb13) (p := ⟨b21, 3, none⟩) HBS.out (.int .i64 (py + dy))) gD')
      clear gD gD' hb13 q1 q2
      go_upto_region 34 with (fail)
      generalize w13.setCell ⟨b21, 3, none⟩ (.int .i64 (py + dy)) = w14 at *
      clear d0 d1 d2 d3 d4 d5 f3 ld l13 l21
      obtain ⟨⟨sl, sm⟩, ⟨sc, gc⟩, hbw⟩ := H4.out w14 (bthen HB7.out.1 HB14.out.1)
      obtain ⟨n0, n1, n2, n3, n4, n5⟩ := HB14.out.2.six
      have ln := HB14.out.2.lt
      have HCD := hide (show CLow ms.length ⟨c.code, c.mod, c.x + dx, c.y + dy, c.changes, c.gone⟩ from ⟨HCL.out.code, HCL.out.mod, (by
        have h1 := HIC.out
        show plB (c.x + dx) (c.y + dy) = true
        unfold plB
        simp only [Bool.and_eq_true, inB_iff]
        omega), HCL.out.ok, HCL.out.ref, HCL.out.asc, HCL.out.dis⟩)
      have scD : CpR w14 ⟨code, (p : Int) + 1, px + dx, py + dy, ra, rn, rcap, ra2, rn2, rc2⟩ ⟨c.code, c.mod, c.x + dx, c.y + dy, c.changes, c.gone⟩ := ⟨⟨sc.1.1, sc.1.2.1, congrArg (· + dx) sc.1.2.2.1, congrArg (· + dy) sc.1.2.2.2⟩, sc.2⟩
      have hk1 := c_Expand A2 P.length c2 P ms ⟨code, (p : Int) + 1, px + dx, py + dy, ra, rn, rcap, ra2, rn2, rc2⟩ ⟨c.code, c.mod, c.x + dx, c.y + dy, c.changes, c.gone⟩ w14 (by omega) sl sm scD
      clear sl sm sc gc hbw scD
      go_wp2_with fail
      refine hk1.mono ?_
      clear hk1 n0 n1 n2 n3 n4 n5 ln
      rintro e w15 ⟨hb15, ⟨hv, -⟩ | ⟨s3, -, hso3, hex⟩⟩
      · rw [HCD.out.valid HLow.out] at hv; cases hv
      obtain rfl : s3 = s2 := SortOf.uniq (madeM_nd _ _) (show (madeM ms ⟨c.code, c.mod, c.x + dx, c.y + dy, c.changes, c.gone⟩).Perm (madeM ms c) from List.Perm.refl _) hso3 H5.out.2.1
      clear hso3
      rcases hex with ⟨hok, -⟩ | ⟨-, A22, n22, d22, rows22, rfl, u1, u2, u3, u4⟩
      · exact Bool.noConfusion (hok.symm.trans (HSH.out dx dy hdx hdy).1)
      have u4' : Pls w15 rows22 (ps.map (fun q => ⟨q.path, q.x + dx, q.y + dy, q.text⟩)) := by
        rw [← (HSH.out dx dy hdx hdy).2]
        exact u4
      have hn22 : n22 = n17 := by
        have h1 := u3.lenP
        have h2 := u4'.1
        rw [List.length_map] at h2
        have h3 := HLX.out.2.2.1
        have h4 := HLX.out.2.2.2
        omega
      subst hn22
      have HB15 := hide (And.intro (bthen HB14.out.1 hb15) (And.intro (HB14.out.2.below hb15 HB14.out.2.lt) (And.intro u3 u4')))
      clear hb15 u1 u2 u3 u4 u4'
      go_wp2_with fail
      go_loopw [24] (fun i wr => ∃ j : Nat, j ≤ n22 ∧ i = .int .i64 j ∧ Below w15.heap.size w15 wr) (fun i _ => n22 - (intOf i).toNat)
      case atStart => exact ⟨0, by omega, rfl, Below.refl _ _⟩
      case round =>
        obtain ⟨j, hj, rfl, hb⟩ := hrel
        by_cases hlt : j < n22
        · have hjp : j < ps.length := by have h3 := HLX.out.2.2.1; have h4 := HLX.out.2.2.2; omega
          have hjr : j < rows17.length := by have := HLX.out.2.2.2; omega
          have hjq : j < rows22.length := by have h3 := HB15.out.2.2.2.1; rw [List.length_map] at h3; omega
          have hjp' : j < (ps.map (fun q => (⟨q.path, q.x + dx, q.y + dy, q.text⟩ : Pl))).length := by rw [List.length_map]; exact hjp
          have hb7 := bthen HB15.out.1 hb
          have HBR := hide hb
          have sl := HB7.out.2.1.to' hb7
          have sp := HB7.out.2.2.to hb7
          have tl := HB15.out.2.2.1.to' hb
          have tp := HB15.out.2.2.2.to hb
          obtain ⟨bA1, oA1, hAe, hbA, -, -, -, -⟩ := sl.atP (Below.refl _ _) hjr
          obtain ⟨bB1, oB1, hBe, hbB, -, -, -, -⟩ := tl.atP (Below.refl _ _) hjq
          obtain ⟨⟨e1, e2, e3⟩, e4, e5, e6⟩ := sp.2 j hjr hjp
          obtain ⟨⟨f1, f2, f3⟩, f4, f5, f6⟩ := tp.2 j hjq hjp'
          simp only [List.getElem_map] at f1 f2 f3 f6
          have hbd := HBD.out ps[j] (List.getElem_mem hjp)
          subst hAe
          subst hBe
          have fP := sl.bwP hjr
          have fQ := tl.bwP hjq
          have g1 := fun (x : BW wr) => ((H4.out x.val (bthen (bthen HB7.out.1 hb7) x.ok)).2.1.2.six).2.2.1
          have g2 := fun (x : BW wr) => ((H4.out x.val (bthen (bthen HB7.out.1 hb7) x.ok)).2.1.2.six).2.2.2.1
          have g3 := fun (x : BW wr) => ((HB15.out.2.1.below (bthen hb x.ok) HB15.out.2.1.lt).six).2.2.1
          have g4 := fun (x : BW wr) => ((HB15.out.2.1.below (bthen hb x.ok) HB15.out.2.1.lt).six).2.2.2.1
          have l13 := ((H4.out wr (bthen HB7.out.1 hb7)).2.1.2).lt
          have l21 := (HB15.out.2.1.below hb HB15.out.2.1.lt).lt
          have hnr : rows17[j].n ≤ 9223372036854775807 := by omega
          have hnq : rows22[j].n ≤ 9223372036854775807 := by omega
          have hIn := fun (x : BW wr) => c_rIntsv (l := ps[j].path) (k := ps[j].path) (v := true) (by simp) rows17[j].a rows17[j].n rows17[j].c rows22[j].a rows22[j].n rows22[j].c x.val hnr hnq (e6.to' x.ok) (f6.to' x.ok)
          rw [← e1] at f1
          rw [← e2] at f2
          rw [← e3] at f3
          rw [← e1, ← e2] at hbd
          generalize rows17[j] = r at *
          generalize rows22[j] = q at *
          obtain ⟨ra', rn', rc', rx', ry', rt'⟩ := r
          obtain ⟨qa', qn', qc', qx', qy', qt'⟩ := q
          simp only at e1 e2 e3 e4 e5 e6 f1 f2 f3 f4 f5 f6 fP fQ hbd hnr hnq hIn
          subst f1
          subst f2
          subst f3
          obtain ⟨fP0, fP1, fP2, fP3⟩ := fP
          obtain ⟨fQ0, fQ1, fQ2, fQ3⟩ := fQ
          have HIn := hide hIn
          have hjl' : (j : Int) < (n22 : Int) := by omega
          have hnx : ((rx' + dx - rx') != (px + dx - px)) = false := by
            rw [show rx' + dx - rx' = px + dx - px by omega]
            simp
          have hny : ((ry' + dy - ry') != (py + dy - py)) = false := by
            rw [show ry' + dy - ry' = py + dy - py by omega]
            simp
          clear e1 e2 e3 e4 e5 e6 f4 f5 f6 hIn sl sp tl tp hb hb7 hjp'
          go_wp2_with fail
          simp only [List.append_eq, List.cons_append, List.nil_append]
          refine wp_region_bw wr (Below.refl _ _) (by kernel_rfl) (by kernel_rfl) ?_
          repeat (go_big_quiet_step ((go_at_call 14; exact bw_call (HIn.out _))))
          refine wpQuiet_nil ?_
          intro w16 hb16
          have HB16 := hide (bthen HBR.out hb16)
          clear hb16
          go_wp2_with fail
          go_roundw
          case rel => exact ⟨j + 1, by omega, by go_num, HB16.out⟩
          case measure => simp [intOf]; omega
        · obtain rfl : n22 = j := by omega
          have HE := hide (bthen HB0.out.1 (H4.out wr (bthen HB7.out.1 (bthen HB15.out.1 hb))).2.2)
          clear hb
          go_wp2_with fail
          go_ret
          exact ⟨rfl, HE.out⟩
end Go.Proofs.Ytncdombfhcfobaa
