/- ModuleBack: what the law's function does. -/
import Derived.Test.YtncdombfhcfobaaM39
import Derived.Test.YtncdombfhcfobaaM41
namespace Go.Proofs.Ytncdombfhcfobaa
open Go.RowKit
theorem Blk.six {w : World} {g : Nat} {t : TypeId} {a b c d e f : Value} (h : Blk w g t [a, b, c, d, e, f]) : w.cell? ⟨g, 0, none⟩ = some a ∧ w.cell? ⟨g, 1, none⟩ = some b ∧ w.cell? ⟨g, 2, none⟩ = some c ∧ w.cell? ⟨g, 3, none⟩ = some d ∧ w.cell? ⟨g, 4, none⟩ = some e ∧ w.cell? ⟨g, 5, none⟩ = some f :=
  ⟨h.cell 0, h.cell 1, h.cell 2, h.cell 3, h.cell 4, h.cell 5⟩
theorem SlR.of_own' {w : World} {base n c k : Nat} {e : TypeId} {A : Option Addr} {xs : List Value} (h : w.ownsRow base e k (.slice A n c) n xs) : SlR w w.heap.size k A n xs := (own_row h).2.2
/-- another definition, boxed -/
def NxCut (wo : World) (id : Int) (L : List It) (v : Value) (wx : World) : Prop :=
  ∃ g A c, v = .pointer (some ⟨g, 0, none⟩) ∧ L.length ≤ c ∧ c ≤ 9223372036854775807 ∧ Blk wx g 27 [.int .i64 id, .slice A L.length c] ∧ SlR wx wx.heap.size 6 A L.length (L.flatMap cI) ∧ Below wo.heap.size wo wx
theorem CLow.len {L L' : Nat} {c : Cp} (h : CLow L c) (e : L' = L) : CLow L' c := e ▸ h
theorem cont_len (old now : List It) (c : Cp) : (contU old now c).length ≤ c.changes.length + c.gone.length := by
  unfold contU
  have := List.length_filter_le (cntB old now) (c.changes.map (·.id) ++ c.gone)
  simpa using this
theorem gone_len {l : List Int} (h : ascB 0 99 (-1) l = true) : l.length ≤ 101 := by
  by_cases e : l = []
  · subst e; simp
  · have := ascB_len l (-1) h e
    omega
theorem sortN_nil : sortN [] = [] := (sortN_perm []).eq_nil
theorem reb_ok {ms : List Mo} {c : Cp} {next : Mo} {p : Nat} (h : Low ms) (hc : CLow ms.length c) (hp : p < ms.length) (hid : next.id = (p : Int) + 1) (hok : itsOk next.items = true) (hlow : ∀ s ∈ next.items, s.kind = 2 → 1 ≤ s.mod ∧ s.mod < next.id) (hm : c.mod = (p : Int) + 1) : rebOk ms next c = true := by
  unfold rebOk
  rw [h.valid, repl_low h hp hid, (h.set hid hok hlow).valid, hc.valid h, decide_eq_true (hid.trans hm.symm)]
  rfl
theorem made_len (ms : List Mo) (c : Cp) : (madeM ms c).length ≤ (itemsOf ms c.mod).length + c.changes.length := by
  unfold madeM
  have h1 := putAll_len c.changes (delAll (byL (itemsOf ms c.mod)) c.gone)
  have h2 := delAll_len c.gone (byL (itemsOf ms c.mod))
  have h3 := putAll_len (itemsOf ms c.mod) []
  rw [show putAll [] (itemsOf ms c.mod) = byL (itemsOf ms c.mod) from rfl] at h3
  simp only [List.length_nil] at h3
  omega
set_option linter.unusedSimpArgs false in
set_option maxRecDepth 100000 in
set_option maxHeartbeats 16000000 in
theorem c_Back (A B C : Option Addr) (n cc m d k f : Nat) (rows : List XR) (xs : List (List I3)) (ys zs : List I3) (gone which : Int) (w : World) (hn : n ≤ 9223372036854775807) (hr : SlR w w.heap.size 1 A n (rows.flatMap cX)) (hx : Xss w rows xs) (hm : m ≤ d) (hd : d ≤ 9223372036854775807) (hs : SlR w w.heap.size 3 B m (ys.flatMap c3)) (hk : k ≤ 9223372036854775807) (ht : SlR w w.heap.size 3 C k (zs.flatMap c3))
    (hy : ∀ a ∈ ys, ok3 a) (hz : ∀ a ∈ zs, ok3 a) (hg : okN gone) (hw : okN which) :
    Calls Try.prog 4 #[.slice A n cc, .slice B m d, .slice C k f, .int .i64 gone, .int .i64 which] w fun e w' => e = .returned (.bool true) ∧ Below w.heap.size w w' := by
  have HA := hide (And.intro hr (And.intro hx (And.intro hs (And.intro ht (And.intro hy hz)))))
  have HLow := hide (made_low xs)
  clear hr hx hs hy ht hz
  go_enter Try.func4, Try.ntmps4
  go_wp2_with fail
  refine (c_sane w).mono ?_
  rintro e w1 ⟨rfl, hb1⟩
  have hk1 := c_Made A n cc rows xs w1 hn (HA.out.1.to' hb1) (HA.out.2.1.to hb1)
  have H1 := hide hb1
  clear hb1
  go_wp2_with fail
  refine hk1.mono ?_
  clear hk1
  rintro e w2 ⟨v12, rfl, ⟨P, hoP, hmP⟩, hb2⟩
  have HSml := hide (made_sml xs)
  generalize madeL xs = ms at *
  obtain ⟨A2, c2, rfl, pc1, pc2, hsP⟩ := SlR.of_own hoP
  have hPl : P.length ≤ 5 := by rw [hmP.1]; exact HLow.out.len
  have hpc2 : c2 ≤ 9223372036854775807 := by simpa [maxLen] using pc2
  have hb02 := bthen H1.out hb2
  have hk2 := c_Instance A2 P.length c2 P ms which B m d ys gone w2 (by omega) hsP hmP.mods (fun q hq => by have := HLow.out.id_of hq; have := HLow.out.len; unfold okN; omega) hm hd (HA.out.2.2.1.to' hb02) HA.out.2.2.2.2.1 hw hg
  have H2 := hide (And.intro hb02 (And.intro hsP hmP))
  clear hb2 hoP hmP hsP pc2 hb02
  go_wp2_with fail
  refine hk2.mono ?_
  clear hk2
  rintro e w3 ⟨hb3, ⟨-, rfl⟩ | ⟨hne, r, rfl, hcr⟩⟩
  · have HE := hide (balloc (bthen H2.out.1 hb3) (.cells (cC zCR).toArray 45))
    clear hb3
    go_wp2_with fail
    go_ret
    exact ⟨rfl, HE.out⟩
  have HCL := hide (inst_low HLow.out hne which ys gone)
  have HCS := hide (show Sml (instC ms which ys gone).changes from given_sml _ _)
  have HIC := hide (show (0 ≤ (instC ms which ys gone).x ∧ (instC ms which ys gone).x ≤ 1999) ∧ 0 ≤ (instC ms which ys gone).y ∧ (instC ms which ys gone).y ≤ 1999 by
    have h1 := pk_range which 2000 (by omega)
    have h2 := pk_range gone 2000 (by omega)
    show (0 ≤ pk which 2000 ∧ pk which 2000 ≤ 1999) ∧ 0 ≤ pk gone 2000 ∧ pk gone 2000 ≤ 1999
    omega)
  generalize instC ms which ys gone = c at *
  clear hne
  obtain ⟨p, hpm, hpP, hpl⟩ : ∃ p : Nat, c.mod = (p : Int) + 1 ∧ p < P.length ∧ p < ms.length := by
    have := HCL.out.mod
    have e := H2.out.2.2.1
    exact ⟨(c.mod - 1).toNat, by omega, by omega, by omega⟩
  obtain ⟨code, rm, px, py, ra, rn, rcap, ra2, rn2, rc2⟩ := r
  have hcr' := hcr
  obtain ⟨⟨e1, e2, e3, e4⟩, -, -⟩ := hcr'
  simp only at e1 e2 e3 e4
  rw [hpm] at e2
  subst e2
  obtain ⟨r, hre⟩ : ∃ r : CR, r = ⟨code, (p : Int) + 1, px, py, ra, rn, rcap, ra2, rn2, rc2⟩ := ⟨_, rfl⟩
  have gC := Blk.new w3 45 [.int .i64 code, .int .i64 ((p : Int) + 1), .int .i64 px, .int .i64 py, .slice ra rn rcap, .slice ra2 rn2 rc2]
  have hb34 := balloc (Below.refl w3.heap.size w3) (.cells #[.int .i64 code, .int .i64 ((p : Int) + 1), .int .i64 px, .int .i64 py, .slice ra rn rcap, .slice ra2 rn2 rc2] 45)
  have hcr4 := hcr.to hb34
  have hb24 := bthen hb3 hb34
  have HP := hide (And.intro hpm (And.intro hpl (And.intro e1 (And.intro e3 e4))))
  have hsP4 := H2.out.2.1.to' hb24
  have hmP4 := H2.out.2.2.mods.to hb24
  have H4 : Hid (∀ W, Below (w3.alloc (.cells #[.int .i64 code, .int .i64 ((p : Int) + 1), .int .i64 px, .int .i64 py, .slice ra rn rcap, .slice ra2 rn2 rc2] 45)).heap.size (w3.alloc (.cells #[.int .i64 code, .int .i64 ((p : Int) + 1), .int .i64 px, .int .i64 py, .slice ra rn rcap, .slice ra2 rn2 rc2] 45)) W →
      (SlR W W.heap.size 2 A2 P.length (P.flatMap cM) ∧ Mods W P ms) ∧ (CpR W ⟨code, (p : Int) + 1, px, py, ra, rn, rcap, ra2, rn2, rc2⟩ c ∧ Blk W w3.heap.size 45 [.int .i64 code, .int .i64 ((p : Int) + 1), .int .i64 px, .int .i64 py, .slice ra rn rcap, .slice ra2 rn2 rc2]) ∧ Below w.heap.size w W) := hide fun W hW =>
    ⟨⟨hsP4.to' hW, hmP4.to hW⟩, ⟨hcr4.to hW, gC.below hW gC.lt⟩, bthen (bthen H2.out.1 hb24) hW⟩
  clear hcr hb3 hb34 hcr4 hb24 hsP4 hmP4 gC hpm e1 e3 e4 hre r
  go_upto_region 6 with (fail)
  generalize w3.alloc (.cells #[.int .i64 code, .int .i64 ((p : Int) + 1), .int .i64 px, .int .i64 py, .slice ra rn rcap, .slice ra2 rn2 rc2] 45) = w4 at *
  generalize w3.heap.size = b13 at *
  obtain ⟨⟨sl, sm⟩, ⟨-, gC⟩, -⟩ := H4.out w4 (Below.refl _ _)
  obtain ⟨e5, e6, e7, e8⟩ := sm.2 p hpP hpl
  obtain ⟨bA, oA, hAe, hbA, x0, x1⟩ := sl.atM (Below.refl _ _) hpP
  rw [HLow.out.ids p hpl] at e5
  have HOM := hide (And.intro (HLow.out.ids p hpl) (And.intro (HLow.out.ok _ (List.getElem_mem hpl)) (And.intro (HLow.out.low _ (List.getElem_mem hpl)) (HLow.out.its p hpl))))
  obtain ⟨om, hom⟩ : ∃ om, om = ms[p] := ⟨_, rfl⟩
  have HOE := hide hom
  rw [← hom] at e8 HOM
  clear hom
  obtain ⟨q, hq⟩ : ∃ q, q = P[p] := ⟨_, rfl⟩
  have HQE := hide hq
  rw [← hq] at e5 e6 e7 e8 x0 x1
  clear hq
  subst hAe
  obtain ⟨qi, qa, qn, qc⟩ := q
  simp only at e5 e6 e7 e8 x0 x1
  subst e5
  obtain ⟨y0, y1, y2, y3, y4, y5⟩ := gC.six
  have lC := gC.lt
  have gO := Blk.new w4 27 [.int .i64 ((p : Int) + 1), .slice qa qn qc]
  have hb45 := balloc (Below.refl w4.heap.size w4) (.cells #[.int .i64 ((p : Int) + 1), .slice qa qn qc] 27)
  have e8' := e8.to' hb45
  have H5 : Hid (∀ W, Below (w4.alloc (.cells #[.int .i64 ((p : Int) + 1), .slice qa qn qc] 27)).heap.size (w4.alloc (.cells #[.int .i64 ((p : Int) + 1), .slice qa qn qc] 27)) W →
      (SlR W W.heap.size 2 (some ⟨bA, oA, none⟩) P.length (P.flatMap cM) ∧ Mods W P ms) ∧ (CpR W ⟨code, (p : Int) + 1, px, py, ra, rn, rcap, ra2, rn2, rc2⟩ c ∧ Blk W b13 45 [.int .i64 code, .int .i64 ((p : Int) + 1), .int .i64 px, .int .i64 py, .slice ra rn rcap, .slice ra2 rn2 rc2]) ∧
        (Blk W w4.heap.size 27 [.int .i64 ((p : Int) + 1), .slice qa qn qc] ∧ SlR W W.heap.size 6 qa qn (om.items.flatMap cI)) ∧ Below w.heap.size w W) := hide fun W hW => by
    obtain ⟨h1, h2, h3⟩ := H4.out W (bthen hb45 hW)
    exact ⟨h1, h2, ⟨gO.below hW gO.lt, e8'.to' hW⟩, h3⟩
  have HQ := hide (And.intro e6 e7)
  clear sl sm gC e6 e7 e8 e8' gO hb45 hbA
  have lA := World.block_lt_of_cell? w4 _ x0
  simp only at lA
  go_upto_region 9 with (fail)
  generalize w4.alloc (.cells #[.int .i64 ((p : Int) + 1), .slice qa qn qc] 27) = w5 at *
  generalize w4.heap.size = b15 at *
  clear x0 x1 y0 y1 y2 y3 y4 y5 lC lA
  have HS := hide (fun (W : World) (h : Below w5.heap.size w5 W) => (show W.cell? ⟨b13, 1, none⟩ = some (.int .i64 ((p : Int) + 1)) ∧ Below w5.heap.size w5 W from ⟨((H5.out W h).2.1.2.six).2.1, h⟩))
  have HGv := hide (fun (W : World) (h : Below w5.heap.size w5 W) => c_Given C k f zs ((p : Int) + 1) W hk (HA.out.2.2.2.1.to' (H5.out W h).2.2.2) HA.out.2.2.2.2.2 (by unfold okN; omega))
  go_cut [16] from 56 to 62 (fun v wx => NxCut w5 ((p : Int) + 1) (givenL ((p : Int) + 1) zs) v wx)
  case first =>
    go_region_held3 (fun W => W.cell? ⟨b13, 1, none⟩ = some (.int .i64 ((p : Int) + 1)) ∧ Below w5.heap.size w5 W)
      (first | exact HS.out _ (by assumption) | exact HS.out _ (bdrew (Below.refl _ _)) | exact HS.out _ h8 | exact HS.out _ (balloc h8 _) | exact HS.out _ (bset (bset h8 (Nat.le_refl _) _) (Nat.le_refl _) _) | (go_split_ands; first | exact HS.out _ (by assumption) | exact HS.out _ (bthen (by assumption) (by assumption)) | exact HS.out _ (balloc (by assumption) _) | exact HS.out _ (bdrew (balloc (Below.refl _ _) _)) | exact HS.out _ (balloc (bthen (by assumption) (by assumption)) _)))
      ((go_split_ands; go_at_call 10; refine (HGv.out _ (by assumption)).mono ?_; rintro e w8 ⟨v, rfl, hrow, hb8⟩; obtain ⟨A', c', rfl, hc1, hc2, hsl⟩ := SlR.of_own hrow; have h8 : Below w5.heap.size w5 w8 := bthen (by assumption) hb8; (try (obtain ⟨q0, q1, q2, q3⟩ := (((Blk.new w5 27 [.int .i64 0, .slice none 0 0]).drew).below hb8 (by simp)).all2; have q4 : w5.heap.size < w8.heap.size := (((Blk.new w5 27 [.int .i64 0, .slice none 0 0]).drew).below hb8 (by simp)).lt))))
    · go_wp2_with fail
      go_meet
      exact ⟨w8.heap.size, A', c', rfl, hc1, by simpa [maxLen] using hc2, Blk.new w8 27 [.int .i64 ((p : Int) + 1), .slice A' (givenL ((p : Int) + 1) zs).length c'], hsl.to' (balloc (Below.refl _ _) _), balloc h8 _⟩
    · go_wp2_with fail
      go_meet
      have gN := ((Blk.new w5 27 [.int .i64 0, .slice none 0 0]).drew).below hb8 (by simp)
      exact ⟨w5.heap.size, A', c', rfl, hc1, by simpa [maxLen] using hc2, (gN.set 0 (.int .i64 ((p : Int) + 1))).set 1 (.slice A' (givenL ((p : Int) + 1) zs).length c'), (SlR.of_own' (own_set (own_set hrow ⟨w5.heap.size, 0, none⟩ (by simp) (.int .i64 ((p : Int) + 1))) ⟨w5.heap.size, 1, none⟩ (by simp) (.slice A' (givenL ((p : Int) + 1) zs).length c'))), bset (bset h8 (Nat.le_refl _) _) (Nat.le_refl _) _⟩
  case rest =>
    obtain ⟨w6, rfl⟩ : ∃ w6 : World, w6 = wc := ⟨_, rfl⟩
    obtain ⟨b16, A16, c16, rfl, g1, g2, gN, sN, hb56⟩ := hcut
    clear HS HGv
    have hGok := given_ok ((p : Int) + 1) (by omega) zs
    generalize givenL ((p : Int) + 1) zs = G at *
    have hGl := itsOk_len hGok.1
    have HN := hide (And.intro g1 g2)
    have H6 : Hid (∀ W, Below w6.heap.size w6 W →
        (SlR W W.heap.size 2 (some ⟨bA, oA, none⟩) P.length (P.flatMap cM) ∧ Mods W P ms) ∧ (CpR W ⟨code, (p : Int) + 1, px, py, ra, rn, rcap, ra2, rn2, rc2⟩ c ∧ Blk W b13 45 [.int .i64 code, .int .i64 ((p : Int) + 1), .int .i64 px, .int .i64 py, .slice ra rn rcap, .slice ra2 rn2 rc2]) ∧
          (Blk W b15 27 [.int .i64 ((p : Int) + 1), .slice qa qn qc] ∧ SlR W W.heap.size 6 qa qn (om.items.flatMap cI)) ∧ (Blk W b16 27 [.int .i64 ((p : Int) + 1), .slice A16 G.length c16] ∧ SlR W W.heap.size 6 A16 G.length (G.flatMap cI)) ∧ Below w.heap.size w W) := hide fun W hW => by
      obtain ⟨h1, h2, h3, h4⟩ := H5.out W (bthen hb56 hW)
      exact ⟨h1, h2, h3, ⟨gN.below hW gN.lt, sN.to' hW⟩, h4⟩
    clear g1 g2 gN sN hb56 H5 H4
    have hnxt := HLow.out.set (next := ⟨(p : Int) + 1, G⟩) rfl hGok.1 (fun s hs h2 => (hGok.2 s hs h2).2)
    have HNL := hide hnxt
    have HGN := hide (And.intro hGok.1 (fun s hs h2 => (hGok.2 s hs h2).2 : ∀ s ∈ G, s.kind = 2 → 1 ≤ s.mod ∧ s.mod < (p : Int) + 1))
    clear hGok hnxt
    have hlm : ∀ q ∈ ms, q.items.length ≤ 1000000 := fun q hq => by have := itsOk_len (HLow.out.ok q hq); omega
    have HLM := hide hlm
    clear hlm
    obtain ⟨⟨sl, sm⟩, ⟨sc, gc⟩, ⟨go, so⟩, ⟨gn, sn⟩, hbw⟩ := H6.out w6 (Below.refl _ _)
    obtain ⟨n0, n1⟩ := gn.two
    have ln := gn.lt
    have hk1 := c_Replace (some ⟨bA, oA, none⟩) P.length c2 P ms ⟨(p : Int) + 1, A16, G.length, c16⟩ ⟨(p : Int) + 1, G⟩ w6 (by omega) sl sm HLM.out (by show G.length ≤ _; omega) rfl sn
    clear sl sm sc gc go so gn sn hbw
    go_wp2_with fail
    refine hk1.mono ?_
    clear hk1
    rintro e w7 ⟨hb7, ⟨hv, -⟩ | ⟨-, A7, n7, c7, P7, rfl, t1, t2, t3, t4⟩⟩
    · rw [HLow.out.valid, repl_low HLow.out HP.out.2.1 rfl, HNL.out.valid] at hv; cases hv
    rw [repl_low HLow.out HP.out.2.1 rfl] at t4
    have hn7 : n7 ≤ 5 := by have := t3.lenm; have h2 := t4.1; rw [List.length_set] at h2; have := HLow.out.len; omega
    have H7 := hide (And.intro hb7 (And.intro t1 (And.intro t2 (And.intro t3 t4))))
    clear hb7 t1 t2 t3 t4 n0 n1 ln
    obtain ⟨⟨sl, sm⟩, ⟨sc, gc⟩, ⟨go, so⟩, ⟨gn, sn⟩, hbw⟩ := H6.out w7 H7.out.1
    obtain ⟨n0, n1, n2, n3, n4, n5⟩ := gc.six
    have ln := gc.lt
    have hk1 := c_Items (some ⟨bA, oA, none⟩) P.length c2 P ms ⟨code, (p : Int) + 1, px, py, ra, rn, rcap, ra2, rn2, rc2⟩ c w7 (by omega) sl sm sc
    clear sl sm sc gc go so gn sn hbw
    go_wp2_with fail
    refine hk1.mono ?_
    clear hk1
    rintro e w8 ⟨hb8, ⟨hv, -⟩ | ⟨v19, s, -, hso, rfl, ho8⟩⟩
    · rw [HCL.out.valid HLow.out] at hv; cases hv
    obtain ⟨A8, c8, rfl, t1, t2, t3⟩ := SlR.of_own ho8
    have H8 := hide (And.intro (bthen H7.out.1 hb8) (And.intro hso t3))
    have H78 := hide hb8
    clear hb8 hso t1 t2 t3 ho8 n0 n1 n2 n3 n4 n5 ln
    obtain ⟨⟨sl, sm⟩, ⟨sc, gc⟩, ⟨go, so⟩, ⟨gn, sn⟩, hbw⟩ := H6.out w8 H8.out.1
    obtain ⟨n0, n1, n2, n3, n4, n5⟩ := gc.six
    obtain ⟨m0, m1⟩ := go.two
    have ln := gc.lt
    have lm := go.lt
    have hk1 := c_Rebase (some ⟨bA, oA, none⟩) P.length c2 P ms ⟨(p : Int) + 1, qa, qn, qc⟩ om ⟨code, (p : Int) + 1, px, py, ra, rn, rcap, ra2, rn2, rc2⟩ c w8 (by omega) sl sm HLM.out (by have := itsOk_len HOM.out.2.1; omega) HOM.out.1.symm so sc
    clear sl sm sc gc go so gn sn hbw
    go_wp2_with fail
    refine hk1.mono ?_
    clear hk1
    rintro e w9 ⟨hb9, ⟨hv, -⟩ | ⟨-, q9, v22, rfl, hcq, ho9⟩⟩
    · rw [reb_ok HLow.out HCL.out HP.out.2.1 HOM.out.1 HOM.out.2.1 HOM.out.2.2.1 HP.out.1] at hv; cases hv
    rw [HP.out.1, HOM.out.2.2.2, cont_self, sortN_nil] at ho9
    obtain ⟨A9, c9, rfl, -, -, -⟩ := SlR.of_own ho9
    simp only [List.length_nil]
    have g21 := Blk.new w9 45 (cC q9)
    have hb910 := balloc (Below.refl w9.heap.size w9) (.cells (cC q9).toArray 45)
    have hcq' := hcq.to hb910
    have hb810 := bthen hb9 hb910
    have hb610 := bthen H8.out.1 hb810
    clear ho9 hcq hb9 hb910 n0 n1 n2 n3 n4 n5 m0 m1 ln lm
    go_upto_region 13 with (fail)
    change Code.wp _ _ _ _ (w9.alloc (.cells (cC q9).toArray 45))
    generalize w9.alloc (.cells (cC q9).toArray 45) = w10 at *
    generalize w9.heap.size = b21 at *
    have HH := hide (And.intro (bthen H78.out hb810) trivial)
    clear H78
    have H10 := hide (And.intro hb610 (And.intro hb810 (And.intro g21 hcq')))
    clear hb610 hb810 g21 hcq'
    obtain ⟨⟨sl, sm⟩, ⟨sc, gc⟩, ⟨go, so⟩, ⟨gn, sn⟩, hbw⟩ := H6.out w10 H10.out.1
    obtain ⟨n0, n1, n2, n3, n4, n5⟩ := H10.out.2.2.1.allC
    have ln := H10.out.2.2.1.lt
    have hk1 := c_Items (some ⟨bA, oA, none⟩) P.length c2 P ms q9 _ w10 (by omega) sl sm H10.out.2.2.2
    clear sl sm sc gc go so gn sn hbw
    go_wp2_with fail
    refine hk1.mono ?_
    clear hk1
    rintro e w11 ⟨hb11, ⟨hv, -⟩ | ⟨v24, s', -, hso', rfl, ho11⟩⟩
    · rw [(HCL.out.reb _).valid HLow.out] at hv; cases hv
    obtain ⟨A11, c11, rfl, t1, t2, t3⟩ := SlR.of_own ho11
    have hss : s' = s := sort_same hso' H8.out.2.1 (madeM_nd _ _) (madeM_nd _ _) (reb_made HCL.out (by rw [HP.out.1, HOM.out.2.2.2]; exact itsOk_nd HOM.out.2.1) (fun j => by rw [HP.out.1, HOM.out.2.2.2, getI_byL (itsOk_nd HOM.out.2.1)]))
    subst hss
    have hls : s'.length ≤ 1000000 := by
      have h0 := H8.out.2.1.1.length_eq
      have h1 := made_len ms c
      have h2 := itsOk_len HCL.out.ok
      have h3 : (itemsOf ms c.mod).length ≤ 12 := by
        rw [HP.out.1, HOM.out.2.2.2]
        exact itsOk_len HOM.out.2.1
      omega
    have hs8 := (H8.out.2.2.to' H10.out.2.1).to' hb11
    have hk2 := calls_b (c_rSameItems A11 s'.length c11 s' A8 s'.length c8 s' w11 (by omega) (by omega) t3 hs8) (b' := true) (by simp)
    have HH := hide (And.intro (bthen HH.out.1 hb11) trivial)
    have H11 := hide (And.intro (bthen H10.out.1 hb11) hs8)
    clear hso' t1 t2 t3 hs8 hb11 ho11 n0 n1 n2 n3 n4 n5 ln
    go_wp2_with fail
    refine hk2.mono ?_
    clear hk2
    rintro e w12 ⟨rfl, hb12⟩
    have HH := hide (And.intro (bthen HH.out.1 hb12) trivial)
    have H12 := hide (And.intro (bthen H11.out.1 hb12) (H11.out.2.to' hb12))
    clear hb12
    obtain ⟨⟨sl, sm⟩, ⟨sc, gc⟩, ⟨go, so⟩, ⟨gn, sn⟩, hbw⟩ := H6.out w12 H12.out.1
    obtain ⟨n0, n1, n2, n3, n4, n5⟩ := gc.six
    obtain ⟨m0, m1⟩ := gn.two
    have ln := gc.lt
    have lm := gn.lt
    have hk1 := c_Rebase (some ⟨bA, oA, none⟩) P.length c2 P ms ⟨(p : Int) + 1, A16, G.length, c16⟩ ⟨(p : Int) + 1, G⟩ ⟨code, (p : Int) + 1, px, py, ra, rn, rcap, ra2, rn2, rc2⟩ c w12 (by omega) sl sm HLM.out (by show G.length ≤ _; omega) rfl sn sc
    clear sl sm sc gc go so gn sn hbw
    go_wp2_with fail
    refine hk1.mono ?_
    clear hk1
    rintro e w13 ⟨hb13, ⟨hv, -⟩ | ⟨-, q13, v27, rfl, hcq, ho13⟩⟩
    · rw [reb_ok HLow.out HCL.out HP.out.2.1 rfl HGN.out.1 HGN.out.2 HP.out.1] at hv; cases hv
    have g26 := Blk.new w13 45 (cC q13)
    have hb134 := balloc (Below.refl w13.heap.size w13) (.cells (cC q13).toArray 45)
    have hcq' := hcq.to hb134
    have hb124 := bthen hb13 hb134
    obtain ⟨A13, c13, rfl, -, -, -⟩ := SlR.of_own ho13
    have h0 := (sortN_perm (contU (byL (itemsOf ms c.mod)) (byL G) c)).length_eq
    have hLc : (sortN (contU (byL (itemsOf ms c.mod)) (byL G) c)).length ≤ 1000000 := by
      have h2 := cont_len (byL (itemsOf ms c.mod)) (byL G) c
      have h3 := itsOk_len HCL.out.ok
      have h4 := gone_len HCL.out.asc
      omega
    generalize (sortN (contU (byL (itemsOf ms c.mod)) (byL G) c)).length = nL at *
    have HLc := hide h0
    clear h0 ho13 hcq hb13 hb134 n0 n1 n2 n3 n4 n5 m0 m1 ln lm
    go_upto_region 17 with (fail)
    change Code.wp _ _ _ _ (w13.alloc (.cells (cC q13).toArray 45))
    generalize w13.alloc (.cells (cC q13).toArray 45) = w14 at *
    generalize w13.heap.size = b26 at *
    have HH := hide (And.intro (bthen HH.out.1 hb124) trivial)
    have H14 := hide (And.intro (bthen H12.out.1 hb124) (And.intro (H12.out.2.to' hb124) (And.intro g26 hcq')))
    clear hb124 g26 hcq'
    obtain ⟨⟨sl, sm⟩, ⟨sc, gc⟩, ⟨go, so⟩, ⟨gn, sn⟩, hbw⟩ := H6.out w14 H14.out.1
    obtain ⟨n0, n1, n2, n3, n4, n5⟩ := H14.out.2.2.1.allC
    obtain ⟨m0, m1⟩ := go.two
    have ln := H14.out.2.2.1.lt
    have lm := go.lt
    have hb714 : Below w7.heap.size w7 w14 := HH.out.1
    have hk1 := c_Rebase A7 n7 c7 P7 _ ⟨(p : Int) + 1, qa, qn, qc⟩ om q13 _ w14 (by omega) (H7.out.2.2.2.1.to' hb714) (H7.out.2.2.2.2.to hb714) (fun q hq => by have := itsOk_len (HNL.out.ok q hq); omega) (by have := itsOk_len HOM.out.2.1; omega) HOM.out.1.symm so H14.out.2.2.2
    clear hb714
    clear sl sm sc gc go so gn sn hbw
    go_wp2_with fail
    refine hk1.mono ?_
    clear hk1
    rintro e w15 ⟨hb15, ⟨hv, -⟩ | ⟨-, q15, v30, rfl, hcq, ho15⟩⟩
    · rw [reb_ok HNL.out ((HCL.out.reb _).len (by simp)) (by rw [List.length_set]; exact HP.out.2.1) HOM.out.1 HOM.out.2.1 HOM.out.2.2.1 HP.out.1] at hv; cases hv
    have g29 := Blk.new w15 45 (cC q15)
    have hb156 := balloc (Below.refl w15.heap.size w15) (.cells (cC q15).toArray 45)
    have hcq' := hcq.to hb156
    have hb146 := bthen hb15 hb156
    obtain ⟨A15, c15, rfl, -, -, -⟩ := SlR.of_own ho15
    generalize (sortN (contU (byL (itemsOf (ms.set p ⟨(p : Int) + 1, G⟩) (rebC (byL G) c).mod)) (byL om.items) (rebC (byL G) c))).length = n15 at *
    clear ho15 hcq hb15 hb156 n0 n1 n2 n3 n4 n5 m0 m1 ln lm
    go_upto_region 20 with (fail)
    change Code.wp _ _ _ _ (w15.alloc (.cells (cC q15).toArray 45))
    generalize w15.alloc (.cells (cC q15).toArray 45) = w16 at *
    generalize w15.heap.size = b29 at *
    have H16 := hide (And.intro (bthen H14.out.1 hb146) (And.intro (H14.out.2.1.to' hb146) (And.intro g29 hcq')))
    clear hb146 g29 hcq'
    obtain ⟨⟨sl, sm⟩, ⟨sc, gc⟩, ⟨go, so⟩, ⟨gn, sn⟩, hbw⟩ := H6.out w16 H16.out.1
    obtain ⟨n0, n1, n2, n3, n4, n5⟩ := H16.out.2.2.1.allC
    have ln := H16.out.2.2.1.lt
    have hk1 := c_Items (some ⟨bA, oA, none⟩) P.length c2 P ms q15 _ w16 (by omega) sl sm H16.out.2.2.2
    clear sl sm sc gc go so gn sn hbw
    go_wp2_with fail
    refine hk1.mono ?_
    clear hk1
    rintro e w17 ⟨hb17, ⟨hv, -⟩ | ⟨v32, s2, -, hso2, rfl, ho17⟩⟩
    · rw [((HCL.out.reb _).reb _).valid HLow.out] at hv; cases hv
    obtain ⟨A17, c17, rfl, t1, t2, t3⟩ := SlR.of_own ho17
    have hb17' := bthen H16.out.1 hb17
    have HE := hide (H6.out w17 hb17').2.2.2.2
    by_cases hpos : 0 < nL
    · have hpos' : (0 : Int) < (nL : Int) := by omega
      clear t1 t2 t3 hso2 ho17 hb17 hb17' n0 n1 n2 n3 n4 n5 ln
      go_wp2_with fail
      go_ret
      exact ⟨rfl, HE.out⟩
    · have hpos' : ¬ (0 : Int) < (nL : Int) := by omega
      have hnil : contU (byL (itemsOf ms c.mod)) (byL G) c = [] := by
        have h1 := HLc.out
        exact List.eq_nil_of_length_eq_zero (by omega)
      have hmn : ((itemsOf ms c.mod).map (·.id)).Nodup := by rw [HP.out.1, HOM.out.2.2.2]; exact itsOk_nd HOM.out.2.1
      have h0 : ∀ j, j ∈ c.changes.map (·.id) ∨ j ∈ c.gone → getI (itemsOf ms c.mod) j = getI (byL G) j := fun j hj => by
        rw [← getI_byL hmn]
        by_cases e : getI (byL (itemsOf ms c.mod)) j = getI (byL G) j
        · exact e
        · exfalso
          have := (mem_cont (old := byL (itemsOf ms c.mod)) (now := byL G) (c := c) j).2 ⟨hj, e⟩
          rw [hnil] at this
          cases this
      have hss : s2 = s' := sort_same hso2 H8.out.2.1 (madeM_nd _ _) (madeM_nd _ _) (fun j => by
        rw [reb_made (HCL.out.reb (byL G)) hmn (fun i => by rw [getI_byL (itsOk_nd HOM.out.2.1)]; show _ = getI (itemsOf ms c.mod) i; rw [HP.out.1, HOM.out.2.2.2]) j]
        exact reb_back HCL.out hmn h0 j)
      subst hss
      have hs8 := H16.out.2.1.to' hb17
      have hk2 := calls_b (c_rSameItems A17 s2.length c17 s2 A8 s2.length c8 s2 w17 (by omega) (by omega) t3 hs8) (b' := true) (by simp)
      have HNIL := hide (And.intro hnil hpos)
      clear hnil hmn h0 t1 t2 t3 hso2 ho17 hs8 hb17 hb17' n0 n1 n2 n3 n4 n5 ln hpos
      go_wp2_with fail
      refine hk2.mono ?_
      clear hk2
      rintro e w18 ⟨rfl, hb18⟩
      have HE := hide (bthen HE.out hb18)
      clear hb18
      go_wp2_with fail
      go_ret
      exact ⟨rfl, HE.out⟩
end Go.Proofs.Ytncdombfhcfobaa
