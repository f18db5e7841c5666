/- ModuleRebases: what the law's function does. -/
import Derived.Test.YtncdombfhcfobaaM42
namespace Go.Proofs.Ytncdombfhcfobaa
open Go.RowKit
/-- how many numbers of a list are less than k -/
def lessN (L : List Int) (k : Int) : Nat := (L.filter fun j => decide (j < k)).length
theorem less_at : ∀ {L : List Int}, L.Pairwise (· < ·) → ∀ k : Int, (L[lessN L k]? = some k ↔ k ∈ L)
  | [], _, k => by simp [lessN]
  | a :: L, h, k => by
    rw [List.pairwise_cons] at h
    unfold lessN
    by_cases hak : a < k
    · rw [List.filter_cons_of_pos (by simpa using hak), List.length_cons, List.getElem?_cons_succ]
      have := less_at h.2 k
      unfold lessN at this
      rw [this, List.mem_cons]
      constructor
      · exact .inr
      · rintro (e | e)
        · omega
        · exact e
    · have h0 : (a :: L).filter (fun j => decide (j < k)) = [] := by
        rw [List.filter_eq_nil_iff]
        intro x hx
        simp only [decide_eq_true_eq]
        rcases List.mem_cons.1 hx with rfl | hx
        · exact hak
        · have := h.1 x hx; omega
      rw [h0, List.length_nil, List.getElem?_cons_zero, List.mem_cons]
      constructor
      · intro e; injection e with e; exact .inl e.symm
      · rintro (e | e)
        · rw [e]
        · have := h.1 k e; omega
theorem less_succ : ∀ {L : List Int}, L.Pairwise (· < ·) → ∀ k : Int, lessN L (k + 1) = lessN L k + if k ∈ L then 1 else 0
  | [], _, k => by simp [lessN]
  | a :: L, h, k => by
    rw [List.pairwise_cons] at h
    have ih := less_succ h.2 k
    unfold lessN at ih ⊢
    by_cases h1 : a < k
    · rw [List.filter_cons_of_pos (by simp; omega), List.filter_cons_of_pos (by simpa using h1), List.length_cons, List.length_cons, ih]
      have : (k ∈ a :: L) = (k ∈ L) := by
        rw [List.mem_cons]
        exact propext ⟨fun e => e.elim (fun e => by omega) id, .inr⟩
      simp only [this]
      omega
    · have hn : ∀ x ∈ L, ¬ x < k := fun x hx => by have := h.1 x hx; omega
      have e0 : L.filter (fun j => decide (j < k)) = [] := List.filter_eq_nil_iff.2 (fun x hx => by simpa using hn x hx)
      by_cases h2 : a = k
      · subst h2
        have e1 : L.filter (fun j => decide (j < a + 1)) = [] := List.filter_eq_nil_iff.2 (fun x hx => by have := h.1 x hx; simp; omega)
        rw [List.filter_cons_of_pos (by simp; omega), List.filter_cons_of_neg (by simp), e1, e0, if_pos (by simp)]
        rfl
      · have e1 : L.filter (fun j => decide (j < k + 1)) = [] := List.filter_eq_nil_iff.2 (fun x hx => by have := h.1 x hx; simp; omega)
        have hm : k ∉ a :: L := fun hm => by
          rcases List.mem_cons.1 hm with e | e
          · omega
          · have := h.1 k e; omega
        rw [List.filter_cons_of_neg (by simp; omega), List.filter_cons_of_neg (by simpa using h1), e1, e0, if_neg hm]
        rfl
theorem less_all {L : List Int} {k : Int} (h : ∀ x ∈ L, x < k) : lessN L k = L.length := by
  unfold lessN
  rw [List.filter_eq_self.2 (fun x hx => by simpa using h x hx)]
theorem less_zero {L : List Int} (h : ∀ x ∈ L, 0 ≤ x) : lessN L 0 = 0 := by
  unfold lessN
  rw [List.filter_eq_nil_iff.2 (fun x hx => by have := h x hx; simp; omega)]
  rfl
/-- what the law finds at a number -/
theorem reb_at {ms : List Mo} {c : Cp} {G s : List It} {L : Nat} (hc : CLow L c) (hG : itsOk G = true) (he : itemsOf ms c.mod = G) (hs : SortOf (madeM ms (rebC (byL G) c)) s) (n : Int) :
    ((getI s n).isSome = ((getI c.changes n).isSome || (getI G n).isSome && !decide (n ∈ c.gone))) ∧
      ((getI s n).isSome = true → atI' s n = if ((getI G n).isSome && !(getI c.changes n).isSome) = true then atI' G n else atI' c.changes n) := by
  have hGn := itsOk_nd hG
  have h0 : getI s n = match getI c.changes n with | some x => some x | none => if n ∈ c.gone then none else getI G n := by
    rw [getI_perm (madeM_nd _ _) hs.1, reb_made hc (by rw [he]; exact hGn) (fun j => by rw [he, getI_byL hGn]), getI_made (itsOk_nd hc.ok) (by rw [he]; exact hGn), he]
    cases getI c.changes n <;> rfl
  unfold atI'
  rw [h0]
  cases hc1 : getI c.changes n with
  | some x => simp
  | none =>
    dsimp only
    by_cases hg : n ∈ c.gone
    · simp [hg]
    · rw [if_neg hg]
      cases hG1 : getI G n with
      | some y => simp [hg]
      | none => simp
theorem cont_at {c : Cp} {old G : List It} (ho : itsOk old = true) (hG : itsOk G = true) (n : Int) :
    decide (n ∈ sortN (contU (byL old) (byL G) c)) = (((getI c.changes n).isSome || decide (n ∈ c.gone)) && !decide (atI' old n = atI' G n)) := by
  have h1 : n ∈ sortN (contU (byL old) (byL G) c) ↔ (n ∈ c.changes.map (·.id) ∨ n ∈ c.gone) ∧ atI' old n ≠ atI' G n := by
    rw [(sortN_perm _).mem_iff, mem_cont, getI_byL (itsOk_nd ho), getI_byL (itsOk_nd hG)]
    exact and_congr_right fun _ => not_congr (get_inj ho hG n)
  have h2 : (getI c.changes n).isSome = decide (n ∈ c.changes.map (·.id)) := by
    cases hg : getI c.changes n with
    | some x =>
      obtain ⟨q1, q2⟩ := getI_some hg
      rw [decide_eq_true (List.mem_map.2 ⟨x, q1, q2⟩)]
      rfl
    | none => rw [decide_eq_false (getI_none.1 hg)]; rfl
  rw [h2]
  by_cases q1 : n ∈ c.changes.map (·.id) <;> by_cases q2 : n ∈ c.gone <;> by_cases q3 : atI' old n = atI' G n <;> simp [h1, q1, q2, q3]
theorem cont_bd {old now : List It} {c : Cp} {L : Nat} (hc : CLow L c) : ∀ x ∈ sortN (contU old now c), 0 ≤ x ∧ x < 100 := fun x hx => by
  rw [(sortN_perm _).mem_iff, mem_cont] at hx
  rcases hx.1 with h | h
  · obtain ⟨s, hs, rfl⟩ := List.mem_map.1 h
    have := (itsOk_parts hc.ok).2.2.1 s hs
    omega
  · have := (ascB_parts _ _ hc.asc).2 x h
    omega
set_option linter.unusedSimpArgs false in
set_option maxRecDepth 100000 in
set_option maxHeartbeats 16000000 in
theorem c_Rebases (A B C : Option Addr) (n cc m d k f : Nat) (rows : List XR) (xs : List (List I3)) (ys zs : List I3) (gone which : Int) (w : World) (hn : n ≤ 9223372036854775807) (hr : SlR w w.heap.size 1 A n (rows.flatMap cX)) (hx : Xss w rows xs) (hm : m ≤ d) (hd : d ≤ 9223372036854775807) (hs : SlR w w.heap.size 3 B m (ys.flatMap c3)) (hk : k ≤ 9223372036854775807) (ht : SlR w w.heap.size 3 C k (zs.flatMap c3))
    (hy : ∀ a ∈ ys, ok3 a) (hz : ∀ a ∈ zs, ok3 a) (hg : okN gone) (hw : okN which) :
    Calls Try.prog 6 #[.slice A n cc, .slice B m d, .slice C k f, .int .i64 gone, .int .i64 which] w fun e w' => e = .returned (.bool true) ∧ Below w.heap.size w w' := by
  have HA := hide (And.intro hr (And.intro hx (And.intro hs (And.intro ht (And.intro hy hz)))))
  have HLow := hide (made_low xs)
  clear hr hx hs hy ht hz
  go_enter Try.func6, Try.ntmps6
  go_wp2_with fail
  refine (c_sane w).mono ?_
  rintro e w1 ⟨rfl, hb1⟩
  have hk1 := c_Made A n cc rows xs w1 hn (HA.out.1.to' hb1) (HA.out.2.1.to hb1)
  have H1 := hide hb1
  clear hb1
  go_wp2_with fail
  refine hk1.mono ?_
  clear hk1
  rintro e w2 ⟨v12, rfl, ⟨P, hoP, hmP⟩, hb2⟩
  have HSml := hide (made_sml xs)
  generalize madeL xs = ms at *
  obtain ⟨A2, c2, rfl, pc1, pc2, hsP⟩ := SlR.of_own hoP
  have hPl : P.length ≤ 5 := by rw [hmP.1]; exact HLow.out.len
  have hpc2 : c2 ≤ 9223372036854775807 := by simpa [maxLen] using pc2
  have hb02 := bthen H1.out hb2
  have hk2 := c_Instance A2 P.length c2 P ms which B m d ys gone w2 (by omega) hsP hmP.mods (fun q hq => by have := HLow.out.id_of hq; have := HLow.out.len; unfold okN; omega) hm hd (HA.out.2.2.1.to' hb02) HA.out.2.2.2.2.1 hw hg
  have H2 := hide (And.intro hb02 (And.intro hsP hmP))
  clear hb2 hoP hmP hsP pc2 hb02
  go_wp2_with fail
  refine hk2.mono ?_
  clear hk2
  rintro e w3 ⟨hb3, ⟨-, rfl⟩ | ⟨hne, r, rfl, hcr⟩⟩
  · have HE := hide (balloc (bthen H2.out.1 hb3) (.cells (cC zCR).toArray 45))
    clear hb3
    go_wp2_with fail
    go_ret
    exact ⟨rfl, HE.out⟩
  have HCL := hide (inst_low HLow.out hne which ys gone)
  have HCS := hide (show Sml (instC ms which ys gone).changes from given_sml _ _)
  have HIC := hide (show (0 ≤ (instC ms which ys gone).x ∧ (instC ms which ys gone).x ≤ 1999) ∧ 0 ≤ (instC ms which ys gone).y ∧ (instC ms which ys gone).y ≤ 1999 by
    have h1 := pk_range which 2000 (by omega)
    have h2 := pk_range gone 2000 (by omega)
    show (0 ≤ pk which 2000 ∧ pk which 2000 ≤ 1999) ∧ 0 ≤ pk gone 2000 ∧ pk gone 2000 ≤ 1999
    omega)
  generalize instC ms which ys gone = c at *
  clear hne
  obtain ⟨p, hpm, hpP, hpl⟩ : ∃ p : Nat, c.mod = (p : Int) + 1 ∧ p < P.length ∧ p < ms.length := by
    have := HCL.out.mod
    have e := H2.out.2.2.1
    exact ⟨(c.mod - 1).toNat, by omega, by omega, by omega⟩
  obtain ⟨code, rm, px, py, ra, rn, rcap, ra2, rn2, rc2⟩ := r
  have hcr' := hcr
  obtain ⟨⟨e1, e2, e3, e4⟩, -, -⟩ := hcr'
  simp only at e1 e2 e3 e4
  rw [hpm] at e2
  subst e2
  obtain ⟨r, hre⟩ : ∃ r : CR, r = ⟨code, (p : Int) + 1, px, py, ra, rn, rcap, ra2, rn2, rc2⟩ := ⟨_, rfl⟩
  have gC := Blk.new w3 45 [.int .i64 code, .int .i64 ((p : Int) + 1), .int .i64 px, .int .i64 py, .slice ra rn rcap, .slice ra2 rn2 rc2]
  have hb34 := balloc (Below.refl w3.heap.size w3) (.cells #[.int .i64 code, .int .i64 ((p : Int) + 1), .int .i64 px, .int .i64 py, .slice ra rn rcap, .slice ra2 rn2 rc2] 45)
  have hcr4 := hcr.to hb34
  have hb24 := bthen hb3 hb34
  have HP := hide (And.intro hpm (And.intro hpl (And.intro e1 (And.intro e3 e4))))
  have hsP4 := H2.out.2.1.to' hb24
  have hmP4 := H2.out.2.2.mods.to hb24
  have H4 : Hid (∀ W, Below (w3.alloc (.cells #[.int .i64 code, .int .i64 ((p : Int) + 1), .int .i64 px, .int .i64 py, .slice ra rn rcap, .slice ra2 rn2 rc2] 45)).heap.size (w3.alloc (.cells #[.int .i64 code, .int .i64 ((p : Int) + 1), .int .i64 px, .int .i64 py, .slice ra rn rcap, .slice ra2 rn2 rc2] 45)) W →
      (SlR W W.heap.size 2 A2 P.length (P.flatMap cM) ∧ Mods W P ms) ∧ (CpR W ⟨code, (p : Int) + 1, px, py, ra, rn, rcap, ra2, rn2, rc2⟩ c ∧ Blk W w3.heap.size 45 [.int .i64 code, .int .i64 ((p : Int) + 1), .int .i64 px, .int .i64 py, .slice ra rn rcap, .slice ra2 rn2 rc2]) ∧ Below w.heap.size w W) := hide fun W hW =>
    ⟨⟨hsP4.to' hW, hmP4.to hW⟩, ⟨hcr4.to hW, gC.below hW gC.lt⟩, bthen (bthen H2.out.1 hb24) hW⟩
  clear hcr hb3 hb34 hcr4 hb24 hsP4 hmP4 gC hpm e1 e3 e4 hre r
  go_upto_region 6 with (fail)
  generalize w3.alloc (.cells #[.int .i64 code, .int .i64 ((p : Int) + 1), .int .i64 px, .int .i64 py, .slice ra rn rcap, .slice ra2 rn2 rc2] 45) = w4 at *
  generalize w3.heap.size = b13 at *
  go_upto_region 8 with (fail)
  have HS := hide (fun (W : World) (h : Below w4.heap.size w4 W) => (show W.cell? ⟨b13, 1, none⟩ = some (.int .i64 ((p : Int) + 1)) ∧ Below w4.heap.size w4 W from ⟨((H4.out W h).2.1.2.six).2.1, h⟩))
  have HGv := hide (fun (W : World) (h : Below w4.heap.size w4 W) => c_Given C k f zs ((p : Int) + 1) W hk (HA.out.2.2.2.1.to' (H4.out W h).2.2) HA.out.2.2.2.2.2 (by unfold okN; omega))
  go_cut [15] from 54 to 60 (fun v wx => NxCut w4 ((p : Int) + 1) (givenL ((p : Int) + 1) zs) v wx)
  case first =>
    go_region_held3 (fun W => W.cell? ⟨b13, 1, none⟩ = some (.int .i64 ((p : Int) + 1)) ∧ Below w4.heap.size w4 W)
      (first | exact HS.out _ (by assumption) | exact HS.out _ (bdrew (Below.refl _ _)) | exact HS.out _ h8 | exact HS.out _ (balloc h8 _) | exact HS.out _ (bset (bset h8 (Nat.le_refl _) _) (Nat.le_refl _) _) | (go_split_ands; first | exact HS.out _ (by assumption) | exact HS.out _ (bthen (by assumption) (by assumption)) | exact HS.out _ (balloc (by assumption) _) | exact HS.out _ (bdrew (balloc (Below.refl _ _) _)) | exact HS.out _ (balloc (bthen (by assumption) (by assumption)) _)))
      ((go_split_ands; go_at_call 10; refine (HGv.out _ (by assumption)).mono ?_; rintro e w8 ⟨v, rfl, hrow, hb8⟩; obtain ⟨A', c', rfl, hc1, hc2, hsl⟩ := SlR.of_own hrow; have h8 : Below w4.heap.size w4 w8 := bthen (by assumption) hb8; (try (obtain ⟨q0, q1, q2, q3⟩ := (((Blk.new w4 27 [.int .i64 0, .slice none 0 0]).drew).below hb8 (by simp)).all2; have q4 : w4.heap.size < w8.heap.size := (((Blk.new w4 27 [.int .i64 0, .slice none 0 0]).drew).below hb8 (by simp)).lt))))
    · go_wp2_with fail
      go_meet
      exact ⟨w8.heap.size, A', c', rfl, hc1, by simpa [maxLen] using hc2, Blk.new w8 27 [.int .i64 ((p : Int) + 1), .slice A' (givenL ((p : Int) + 1) zs).length c'], hsl.to' (balloc (Below.refl _ _) _), balloc h8 _⟩
    · go_wp2_with fail
      go_meet
      have gN := ((Blk.new w4 27 [.int .i64 0, .slice none 0 0]).drew).below hb8 (by simp)
      exact ⟨w4.heap.size, A', c', rfl, hc1, by simpa [maxLen] using hc2, (gN.set 0 (.int .i64 ((p : Int) + 1))).set 1 (.slice A' (givenL ((p : Int) + 1) zs).length c'), (SlR.of_own' (own_set (own_set hrow ⟨w4.heap.size, 0, none⟩ (by simp) (.int .i64 ((p : Int) + 1))) ⟨w4.heap.size, 1, none⟩ (by simp) (.slice A' (givenL ((p : Int) + 1) zs).length c'))), bset (bset h8 (Nat.le_refl _) _) (Nat.le_refl _) _⟩
  case rest =>
    obtain ⟨w5, rfl⟩ : ∃ w5 : World, w5 = wc := ⟨_, rfl⟩
    obtain ⟨b16, A16, c16, rfl, g1, g2, gN, sN, hb56⟩ := hcut
    clear HS HGv
    have hGok := given_ok ((p : Int) + 1) (by omega) zs
    generalize givenL ((p : Int) + 1) zs = G at *
    have hGl := itsOk_len hGok.1
    have HN := hide (And.intro g1 g2)
    have H6 : Hid (∀ W, Below w5.heap.size w5 W →
        (SlR W W.heap.size 2 A2 P.length (P.flatMap cM) ∧ Mods W P ms) ∧ (CpR W ⟨code, (p : Int) + 1, px, py, ra, rn, rcap, ra2, rn2, rc2⟩ c ∧ Blk W b13 45 [.int .i64 code, .int .i64 ((p : Int) + 1), .int .i64 px, .int .i64 py, .slice ra rn rcap, .slice ra2 rn2 rc2]) ∧
          (Blk W b16 27 [.int .i64 ((p : Int) + 1), .slice A16 G.length c16] ∧ SlR W W.heap.size 6 A16 G.length (G.flatMap cI)) ∧ Below w.heap.size w W) := hide fun W hW => by
      obtain ⟨h1, h2, h4⟩ := H4.out W (bthen hb56 hW)
      exact ⟨h1, h2, ⟨gN.below hW gN.lt, sN.to' hW⟩, h4⟩
    clear g1 g2 gN sN hb56 H4
    have hnxt := HLow.out.set (next := ⟨(p : Int) + 1, G⟩) rfl hGok.1 (fun s hs h2 => (hGok.2 s hs h2).2)
    have HNL := hide hnxt
    have HGN := hide (And.intro hGok.1 (fun s hs h2 => (hGok.2 s hs h2).2 : ∀ s ∈ G, s.kind = 2 → 1 ≤ s.mod ∧ s.mod < (p : Int) + 1))
    clear hGok hnxt
    have hlm : ∀ q ∈ ms, q.items.length ≤ 1000000 := fun q hq => by have := itsOk_len (HLow.out.ok q hq); omega
    have HLM := hide hlm
    clear hlm
    have HIO := hide (show itemsOf (ms.set p ⟨(p : Int) + 1, G⟩) ((p : Int) + 1) = G by
      have := HNL.out.its p (by rw [List.length_set]; exact HP.out.2.1)
      rw [this, List.getElem_set_self])
    obtain ⟨⟨sl, sm⟩, ⟨sc, gc⟩, ⟨gn, sn⟩, hbw⟩ := H6.out w5 (Below.refl _ _)
    obtain ⟨n0, n1⟩ := gn.two
    have ln := gn.lt
    have hk1 := c_Replace A2 P.length c2 P ms ⟨(p : Int) + 1, A16, G.length, c16⟩ ⟨(p : Int) + 1, G⟩ w5 (by omega) sl sm HLM.out (by show G.length ≤ _; omega) rfl sn
    clear sl sm sc gc gn sn hbw
    go_wp2_with fail
    refine hk1.mono ?_
    clear hk1
    rintro e w6 ⟨hb7, ⟨hv, -⟩ | ⟨-, A7, n7, c7, P7, rfl, t1, t2, t3, t4⟩⟩
    · rw [HLow.out.valid, repl_low HLow.out HP.out.2.1 rfl, HNL.out.valid] at hv; cases hv
    rw [repl_low HLow.out HP.out.2.1 rfl] at t4
    have hn7 : n7 ≤ 5 := by have := t3.lenm; have h2 := t4.1; rw [List.length_set] at h2; have := HLow.out.len; omega
    have H7 := hide (And.intro hb7 (And.intro t1 (And.intro t2 (And.intro t3 t4))))
    clear hb7 t1 t2 t3 t4 n0 n1 ln
    obtain ⟨⟨sl, sm⟩, ⟨sc, gc⟩, ⟨gn, sn⟩, hbw⟩ := H6.out w6 H7.out.1
    obtain ⟨n0, n1, n2, n3, n4, n5⟩ := gc.six
    obtain ⟨m0, m1⟩ := gn.two
    have ln := gc.lt
    have lm := gn.lt
    have hk1 := c_Rebase A2 P.length c2 P ms ⟨(p : Int) + 1, A16, G.length, c16⟩ ⟨(p : Int) + 1, G⟩ ⟨code, (p : Int) + 1, px, py, ra, rn, rcap, ra2, rn2, rc2⟩ c w6 (by omega) sl sm HLM.out (by show G.length ≤ _; omega) rfl sn sc
    clear sl sm sc gc gn sn hbw
    go_wp2_with fail
    refine hk1.mono ?_
    clear hk1
    rintro e w7 ⟨hb7, ⟨hv, -⟩ | ⟨-, q7, v19, rfl, hcq, ho7⟩⟩
    · rw [reb_ok HLow.out HCL.out HP.out.2.1 rfl HGN.out.1 HGN.out.2 HP.out.1] at hv; cases hv
    have g18 := Blk.new w7 45 (cC q7)
    have hb78 := balloc (Below.refl w7.heap.size w7) (.cells (cC q7).toArray 45)
    have hcq' := hcq.to hb78
    have hb68 := bthen hb7 hb78
    obtain ⟨A19, c19, rfl, t1, t2, t3⟩ := SlR.of_own ho7
    have hlc : (sortN (contU (byL (itemsOf ms c.mod)) (byL G) c)).length ≤ 1000000 := by
      have h0 := (sortN_perm (contU (byL (itemsOf ms c.mod)) (byL G) c)).length_eq
      have h2 := cont_len (byL (itemsOf ms c.mod)) (byL G) c
      have h3 := itsOk_len HCL.out.ok
      have h4 := gone_len HCL.out.asc
      omega
    have HCN := hide (And.intro (sortN_lt (cont_nd (old := byL (itemsOf ms c.mod)) (now := byL G) HCL.out)) (And.intro (cont_bd (old := byL (itemsOf ms c.mod)) (now := byL G) HCL.out) (fun j => cont_at (c := c) (old := itemsOf ms c.mod) (by rw [HP.out.1, HLow.out.its p HP.out.2.1]; exact HLow.out.ok _ (List.getElem_mem _)) HGN.out.1 j)))
    generalize sortN (contU (byL (itemsOf ms c.mod)) (byL G) c) = Lc at *
    have H8c := hide (t3.to' hb78)
    clear ho7 hcq hb7 hb78 t1 t2 t3 n0 n1 n2 n3 n4 n5 m0 m1 ln lm
    go_upto_region 11 with (fail)
    change Code.wp _ _ _ _ (w7.alloc (.cells (cC q7).toArray 45))
    generalize w7.alloc (.cells (cC q7).toArray 45) = w8 at *
    generalize w7.heap.size = b18 at *
    have H8 := hide (And.intro (bthen H7.out.1 hb68) (And.intro hb68 (And.intro g18 hcq')))
    clear hb68 g18 hcq'
    obtain ⟨n0, n1, n2, n3, n4, n5⟩ := H8.out.2.2.1.allC
    have ln := H8.out.2.2.1.lt
    have hk1 := c_Items A7 n7 c7 P7 _ q7 _ w8 (by omega) (H7.out.2.2.2.1.to' H8.out.2.1) (H7.out.2.2.2.2.to H8.out.2.1) H8.out.2.2.2
    go_wp2_with fail
    refine hk1.mono ?_
    clear hk1
    rintro e w9 ⟨hb9, ⟨hv, -⟩ | ⟨v21, s, -, hso, rfl, ho9⟩⟩
    · rw [((HCL.out.reb _).len (by simp)).valid HNL.out] at hv; cases hv
    obtain ⟨A21, c21, rfl, t1, t2, t3⟩ := SlR.of_own ho9
    have HAT := hide (fun j => reb_at (s := s) (HCL.out.len (L' := ms.length) rfl) HGN.out.1 (by rw [HP.out.1]; exact HIO.out) hso j)
    have hls : s.length ≤ 1000000 := by
      have h0 := hso.1.length_eq
      have h1 := made_len (ms.set p ⟨(p : Int) + 1, G⟩) (rebC (byL G) c)
      have h2 := itsOk_len (HCL.out.reb (byL G)).ok
      have h3 : (itemsOf (ms.set p ⟨(p : Int) + 1, G⟩) (rebC (byL G) c).mod).length ≤ 12 := by
        rw [show (rebC (byL G) c).mod = (p : Int) + 1 from HP.out.1, HIO.out]
        exact hGl
      omega
    have H9 := hide (And.intro (bthen H8.out.1 hb9) (And.intro t3 (H8c.out.to' hb9)))
    clear t1 t2 t3 hso ho9 hb9 n0 n1 n2 n3 n4 n5 ln H8c
    go_upto_region 14 with (fail)
    obtain ⟨⟨sl, sm⟩, ⟨sc, gc⟩, ⟨gn, sn⟩, hbw⟩ := H6.out w9 H9.out.1
    obtain ⟨e5, e6, e7, e8⟩ := sm.2 p hpP hpl
    obtain ⟨bA, oA, hAe, hbA, x0, x1⟩ := sl.atM (Below.refl _ _) hpP
    rw [HLow.out.ids p hpl] at e5
    have HOM := hide (And.intro (HLow.out.ids p hpl) (And.intro (HLow.out.ok _ (List.getElem_mem hpl)) (HLow.out.its p hpl)))
    obtain ⟨om, hom⟩ : ∃ om, om = ms[p] := ⟨_, rfl⟩
    have HOE := hide hom
    rw [← hom] at e8 HOM
    clear hom
    obtain ⟨q, hq⟩ : ∃ q, q = P[p] := ⟨_, rfl⟩
    have HQE := hide hq
    rw [← hq] at e5 e6 e7 e8 x0 x1
    clear hq
    subst hAe
    obtain ⟨qi, qa, qn, qc⟩ := q
    simp only at e5 e6 e7 e8 x0 x1
    subst e5
    have hrn : rn ≤ rcap ∧ rcap ≤ 9223372036854775807 := ⟨sc.2.1.1, sc.2.1.2.1⟩
    have hrn2 : rn2 ≤ rc2 ∧ rc2 ≤ 9223372036854775807 := ⟨sc.2.2.1, sc.2.2.2.1⟩
    have hgl : rn2 = c.gone.length := (sc.2.2.2.2.lenN).symm
    have HGL := hide hgl
    have hqn : qn ≤ 9223372036854775807 := by omega
    have HPc := hide (fun (W : World) (hW : Below w9.heap.size w9 W) => (show W.cell? ⟨bA, oA + p * 2, none⟩ = some (.int .i64 ((p : Int) + 1)) ∧ W.cell? ⟨bA, oA + p * 2 + 1, none⟩ = some (.slice qa qn qc) ∧ bA < W.heap.size ∧ SlR W W.heap.size 6 qa qn (om.items.flatMap cI) from
      ⟨(hW.cell (p := ⟨bA, oA + p * 2, none⟩) hbA).trans x0, (hW.cell (p := ⟨bA, oA + p * 2 + 1, none⟩) hbA).trans x1, Nat.lt_of_lt_of_le hbA hW.size, e8.to' hW⟩))
    clear sl sm sc gc gn sn hbw e6 e7 e8 x0 x1 hbA hgl
    rw [HP.out.1, HOM.out.2.2] at HCN
    go_wp2_with fail
    go_loopw [23, 24] (fun at' j wr => ∃ kk : Nat, kk ≤ 100 ∧ j = .int .i64 kk ∧ at' = .int .i64 (lessN Lc kk : Nat) ∧ Below w9.heap.size w9 wr) (fun _ j _ => 100 - (intOf j).toNat)
    case atStart => exact ⟨0, by omega, rfl, by rw [show ((0 : Nat) : Int) = 0 from rfl, less_zero (fun x hx => (HCN.out.2.1 x hx).1)]; rfl, Below.refl _ _⟩
    case round =>
      obtain ⟨kk, hkk, rfl, rfl, hbr⟩ := hrel
      by_cases hlt : kk < 100
      · have HBR := hide hbr
        obtain ⟨⟨sl, sm⟩, ⟨sc, gc⟩, ⟨gn, sn⟩, hbw⟩ := H6.out wr (bthen H9.out.1 hbr)
        obtain ⟨y0, y1, y2, y3, y4, y5⟩ := gc.six
        have lC := gc.lt
        have hi1 := c_rItemX ra rn rcap c.changes kk wr (by omega) sc.2.1.2.2
        clear sl sm sc gc gn sn hbw hbr
        go_wp2_with fail
        refine hi1.mono ?_
        clear hi1
        rintro e w20 ⟨rfl, hb20⟩
        have HF1 := hide (HAT.out (kk : Int))
        have HF2 := hide (HCN.out.2.2 (kk : Int))
        have HF3 := hide (flag_eq HOM.out.2.1 HGN.out.1 (kk : Int))
        generalize atI' c.changes (kk : Int) = X at *
        generalize (getI c.changes (kk : Int)).isSome = bX at *
        have gX : Blk (w20.alloc (.cells #[.int .i64 X.id, .int .i64 X.kind, .int .i64 X.x, .int .i64 X.y, .string X.text, .int .i64 X.mod] 36)) w20.heap.size 36 (cI X) := Blk.new w20 36 (cI X)
        have hb2021 := balloc (Below.refl w20.heap.size w20) (.cells #[.int .i64 X.id, .int .i64 X.kind, .int .i64 X.x, .int .i64 X.y, .string X.text, .int .i64 X.mod] 36)
        have HB21 := hide (bthen (bthen HBR.out hb20) hb2021)
        have HNY := hide (show w9.heap.size ≤ w20.heap.size from (bthen HBR.out hb20).size)
        clear y0 y1 y2 y3 y4 y5 lC hb20 hb2021
        go_upto_region 21 with (fail)
        generalize w20.alloc (.cells #[.int .i64 X.id, .int .i64 X.kind, .int .i64 X.x, .int .i64 X.y, .string X.text, .int .i64 X.mod] 36) = w21 at *
        generalize w20.heap.size = bx at *
        have HX := hide gX
        clear gX
        obtain ⟨⟨sl, sm⟩, ⟨sc, gc⟩, ⟨gn, sn⟩, hbw⟩ := H6.out w21 (bthen H9.out.1 HB21.out)
        obtain ⟨y0, y1, y2, y3, y4, y5⟩ := gc.six
        have lC := gc.lt
        have HGo := hide sc.2.2.2.2
        clear sl sm sc gc gn sn hbw
        go_wp2_with fail
        go_loopw [27, 28] (fun rv j wi => ∃ i : Nat, i ≤ rn2 ∧ j = .int .i64 i ∧ rv = .bool (decide ((kk : Int) ∈ c.gone.take i)) ∧ w21 = wi) (fun _ j _ => rn2 - (intOf j).toNat)
        case atStart => exact ⟨0, by omega, rfl, by simp, rfl⟩
        case round =>
          obtain ⟨i, hi, rfl, rfl, rfl⟩ := hrel
          by_cases hil : i < rn2
          · have hig : i < c.gone.length := by rw [← HGL.out]; exact hil
            obtain ⟨bg, og, hge, hbg, z0⟩ := HGo.out.atN (Below.refl _ _) hig
            have HT := hide (show decide ((kk : Int) ∈ c.gone.take (i + 1)) = (decide ((kk : Int) ∈ c.gone.take i) || decide (c.gone[i] = (kk : Int))) by
              have h0 : ((kk : Int) ∈ c.gone.take i ++ [c.gone[i]]) ↔ ((kk : Int) ∈ c.gone.take i ∨ c.gone[i] = (kk : Int)) := by
                rw [List.mem_append, List.mem_singleton]
                exact or_congr_right eq_comm
              rw [List.take_succ_eq_append_getElem hig, decide_eq_decide.2 h0, Bool.decide_or])
            generalize c.gone[i] = gi at *
            subst hge
            have hil' : (i : Int) < (rn2 : Int) := by omega
            generalize decide ((kk : Int) ∈ c.gone.take i) = rb at *
            clear hig
            cases rb
            · by_cases hgk : gi = (kk : Int)
              · subst hgk
                go_wp2_with fail
                go_roundw
                case rel => exact ⟨i + 1, by omega, by go_num, by rw [HT.out]; simp, trivial⟩
                case measure => simp [intOf]; omega
              · have hgb : (gi == (kk : Int)) = false := by simpa using hgk
                have HGK := hide hgk
                clear hgk
                go_wp2_with fail
                go_roundw
                case rel => exact ⟨i + 1, by omega, by go_num, by rw [HT.out, decide_eq_false HGK.out]; rfl, trivial⟩
                case measure => simp [intOf]; omega
            · go_wp2_with fail
              go_roundw
              case rel => exact ⟨i + 1, by omega, by go_num, by rw [HT.out]; rfl, trivial⟩
              case measure => simp [intOf]; omega
          · obtain rfl : rn2 = i := by omega
            have hR : decide ((kk : Int) ∈ c.gone.take rn2) = decide ((kk : Int) ∈ c.gone) := by rw [HGL.out, List.take_length]
            rw [hR]
            clear hR
            generalize decide ((kk : Int) ∈ c.gone) = R at *
            obtain ⟨⟨sl, sm⟩, ⟨sc, gc⟩, ⟨gn, sn⟩, hbw⟩ := H6.out w21 (bthen H9.out.1 HB21.out)
            obtain ⟨m0, m1⟩ := gn.two
            have lm := gn.lt
            have hi2 := c_rItemX A16 G.length c16 G kk w21 (by omega) sn
            clear sl sm sc gc gn sn hbw
            go_wp2_with fail
            refine hi2.mono ?_
            clear hi2 y0 y1 y2 y3 y4 y5 lC
            rintro e w22 ⟨rfl, hb22⟩
            generalize atI' G (kk : Int) = Y at *
            generalize (getI G (kk : Int)).isSome = bY at *
            have gY : Blk (w22.alloc (.cells #[.int .i64 Y.id, .int .i64 Y.kind, .int .i64 Y.x, .int .i64 Y.y, .string Y.text, .int .i64 Y.mod] 36)) w22.heap.size 36 (cI Y) := Blk.new w22 36 (cI Y)
            have gX := (HX.out.below hb22 HX.out.lt).alloc (.cells #[.int .i64 Y.id, .int .i64 Y.kind, .int .i64 Y.x, .int .i64 Y.y, .string Y.text, .int .i64 Y.mod] 36)
            have hb223 := balloc (Below.refl w22.heap.size w22) (.cells #[.int .i64 Y.id, .int .i64 Y.kind, .int .i64 Y.x, .int .i64 Y.y, .string Y.text, .int .i64 Y.mod] 36)
            have HB23 := hide (bthen (bthen HB21.out hb22) hb223)
            have HNX := hide (show w22.heap.size ≠ bx ∧ w9.heap.size ≤ bx from ⟨(by have h1 := HX.out.lt; have h2 := hb22.size; omega), HNY.out⟩)
            clear hb22 hb223 m0 m1 lm
            go_upto_region 27 with (fail)
            generalize w22.alloc (.cells #[.int .i64 Y.id, .int .i64 Y.kind, .int .i64 Y.x, .int .i64 Y.y, .string Y.text, .int .i64 Y.mod] 36) = w23 at *
            generalize w22.heap.size = by' at *
            have HXY := hide (And.intro gX gY)
            clear gX gY
            obtain ⟨⟨sl, sm⟩, ⟨sc, gc⟩, ⟨gn, sn⟩, hbw⟩ := H6.out w23 (bthen H9.out.1 HB23.out)
            obtain ⟨y0, y1, y2, y3, y4, y5⟩ := gc.six
            have lC := gc.lt
            obtain ⟨x0, x1, lA, e8⟩ := HPc.out w23 HB23.out
            have hi3 := c_rItemX qa qn qc om.items kk w23 hqn e8
            clear sl sm sc gc gn sn hbw e8
            have hpP' : (p : Int) < (P.length : Int) := by omega
            go_wp2_with fail
            refine hi3.mono ?_
            clear hi3
            rintro e w24 ⟨rfl, hb24⟩
            generalize atI' om.items (kk : Int) = Z at *
            generalize (getI om.items (kk : Int)).isSome = bZ at *
            have gZ : Blk (w24.alloc (.cells #[.int .i64 Z.id, .int .i64 Z.kind, .int .i64 Z.x, .int .i64 Z.y, .string Z.text, .int .i64 Z.mod] 36)) w24.heap.size 36 (cI Z) := Blk.new w24 36 (cI Z)
            have gX := (HXY.out.1.below hb24 HXY.out.1.lt).alloc (.cells #[.int .i64 Z.id, .int .i64 Z.kind, .int .i64 Z.x, .int .i64 Z.y, .string Z.text, .int .i64 Z.mod] 36)
            have gY := (HXY.out.2.below hb24 HXY.out.2.lt).alloc (.cells #[.int .i64 Z.id, .int .i64 Z.kind, .int .i64 Z.x, .int .i64 Z.y, .string Z.text, .int .i64 Z.mod] 36)
            have hb245 := balloc (Below.refl w24.heap.size w24) (.cells #[.int .i64 Z.id, .int .i64 Z.kind, .int .i64 Z.x, .int .i64 Z.y, .string Z.text, .int .i64 Z.mod] 36)
            have HB25 := hide (bthen (bthen HB23.out hb24) hb245)
            have HNE0 := hide (show by' ≠ bx ∧ w24.heap.size ≠ bx ∧ w9.heap.size ≤ bx from ⟨HNX.out.1, (by have h1 := HXY.out.1.lt; have h2 := hb24.size; omega), HNX.out.2⟩)
            clear hb24 hb245 x0 x1 lA y0 y1 y2 y3 y4 y5 lC hpP'
            go_upto_region 28 with (fail)
            generalize w24.alloc (.cells #[.int .i64 Z.id, .int .i64 Z.kind, .int .i64 Z.x, .int .i64 Z.y, .string Z.text, .int .i64 Z.mod] 36) = w25 at *
            generalize w24.heap.size = bz at *
            have HXYZ := hide (And.intro gX (And.intro gY gZ))
            have HNE := hide (show by' ≠ bx ∧ bz ≠ bx ∧ w9.heap.size ≤ bx from HNE0.out)
            clear gX gY gZ
            go_cut [33] from 136 to 143 (fun u wx => u = .bool (bX || bY && !R) ∧ w25 = wx)
            case first =>
              cases bX <;> cases bY <;> (go_wp2_with fail; go_meet; exact ⟨rfl, rfl⟩)
            case rest =>
              obtain ⟨rfl, rfl⟩ := hcut
              generalize (bX || bY && !R) = T0 at *
              go_upto_region 29 with (fail)
              go_cut [148] from 144 to 148 (fun u wx => u = .bool (bY && !bX) ∧ w25 = wx)
              case first =>
                cases bY <;> cases bX <;> (go_wp2_with fail; go_meet; exact ⟨rfl, rfl⟩)
              case rest =>
                obtain ⟨rfl, rfl⟩ := hcut
                obtain ⟨sel, hsel⟩ : ∃ b, (bY && !bX) = b := ⟨_, rfl⟩
                rw [hsel] at HF1 ⊢
                clear hsel
                cases sel
                · have HFV : Hid ((getI s (kk : Int)).isSome = T0 ∧ ((getI s (kk : Int)).isSome = true → atI' s (kk : Int) = X)) := hide (by have := HF1.out; simpa using this)
                  have hWf := HXYZ.out
                  have HB26 := HB25
                  go_upto_region 31 with (fail)
                  obtain ⟨w26, rfl⟩ : ∃ W : World, W = w25 := ⟨_, rfl⟩
                  clear HF1 HXYZ
                  have HW1 := hide hWf
                  clear hWf
                  have hi4 := c_rItemX A21 s.length c21 s kk w26 (by omega) (H9.out.2.1.to' HB26.out)
                  go_wp2_with fail
                  refine hi4.mono ?_
                  clear hi4
                  rintro e w27 ⟨rfl, hb27⟩
                  generalize atI' s (kk : Int) = V at *
                  generalize (getI s (kk : Int)).isSome = bV at *
                  have gV : Blk (w27.alloc (.cells #[.int .i64 V.id, .int .i64 V.kind, .int .i64 V.x, .int .i64 V.y, .string V.text, .int .i64 V.mod] 36)) w27.heap.size 36 (cI V) := Blk.new w27 36 (cI V)
                  have gs := (HW1.out.1.below hb27 HW1.out.1.lt).alloc (.cells #[.int .i64 V.id, .int .i64 V.kind, .int .i64 V.x, .int .i64 V.y, .string V.text, .int .i64 V.mod] 36)
                  have gy := (HW1.out.2.1.below hb27 HW1.out.2.1.lt).alloc (.cells #[.int .i64 V.id, .int .i64 V.kind, .int .i64 V.x, .int .i64 V.y, .string V.text, .int .i64 V.mod] 36)
                  have gz := (HW1.out.2.2.below hb27 HW1.out.2.2.lt).alloc (.cells #[.int .i64 V.id, .int .i64 V.kind, .int .i64 V.x, .int .i64 V.y, .string V.text, .int .i64 V.mod] 36)
                  have hb278 := balloc (Below.refl w27.heap.size w27) (.cells #[.int .i64 V.id, .int .i64 V.kind, .int .i64 V.x, .int .i64 V.y, .string V.text, .int .i64 V.mod] 36)
                  have HB28 := hide (bthen (bthen HB26.out hb27) hb278)
                  go_upto_region 32 with (fail)
                  generalize w27.alloc (.cells #[.int .i64 V.id, .int .i64 V.kind, .int .i64 V.x, .int .i64 V.y, .string V.text, .int .i64 V.mod] 36) = w28 at *
                  generalize w27.heap.size = bv at *
                  have HW2 := hide (And.intro gV (And.intro gs (And.intro gy gz)))
                  clear gV gs gy gz hb27 hb278
                  have hT := HFV.out.1
                  subst hT
                  go_cut [166] from 156 to 166 (fun u wx => u = .bool false ∧ w28 = wx)
                  case first =>
                    have hn1 := fun w => neqIt w V X
                    have hf := HFV.out.2
                    obtain ⟨v0, v1, v2, v3, v4, v5⟩ := HW2.out.1.allI
                    obtain ⟨y0, y1, y2, y3, y4, y5⟩ := HW2.out.2.1.allI
                    have lv := HW2.out.1.lt
                    have ly := HW2.out.2.1.lt
                    cases bV
                    · clear hf
                      go_wp2_with fail
                      go_meet
                      exact ⟨rfl, rfl⟩
                    · have hVW : decide (V = X) = true := decide_eq_true (hf rfl)
                      clear hf
                      have HVW := hide hVW
                      clear hVW
                      go_wp2_with fail
                      go_meet
                      exact ⟨congrArg Value.bool (by rw [HVW.out]; rfl), rfl⟩
                  case rest =>
                    obtain ⟨rfl, rfl⟩ := hcut
                    go_upto_region 34 with (fail)
                    go_cut [36] from 167 to 183 (fun u wx => u = .bool ((bX || R) && !decide (Z = Y)) ∧ w28 = wx)
                    case first =>
                      have hn1 := fun w => neqIt w Z Y
                      have hf := HF3.out
                      obtain ⟨v0, v1, v2, v3, v4, v5⟩ := HW2.out.2.2.1.allI
                      obtain ⟨y0, y1, y2, y3, y4, y5⟩ := HW2.out.2.2.2.allI
                      have lv := HW2.out.2.2.1.lt
                      have ly := HW2.out.2.2.2.lt
                      have HF := hide hf
                      clear hf
                      cases bX <;> cases R <;> cases bZ <;> cases bY <;> (go_wp2_with fail; go_meet; first | exact ⟨rfl, rfl⟩ | exact ⟨congrArg Value.bool HF.out, rfl⟩)
                    case rest =>
                      obtain ⟨rfl, rfl⟩ := hcut
                      rw [← HF2.out]
                      have HS1 : Hid (lessN Lc ((kk : Int) + 1) = lessN Lc (kk : Int) + if decide ((kk : Int) ∈ Lc) = true then 1 else 0) := hide (by rw [less_succ HCN.out.1]; simp)
                      have HS2 : Hid (Lc[lessN Lc (kk : Int)]? = some (kk : Int) ↔ decide ((kk : Int) ∈ Lc) = true) := hide (by rw [less_at HCN.out.1]; simp)
                      have HS3 := hide (show lessN Lc (kk : Int) ≤ Lc.length from List.length_filter_le _ _)
                      generalize decide ((kk : Int) ∈ Lc) = D at *
                      go_upto_region 35 with (fail)
                      go_cut [37] from 184 to 195 (fun u wx => u = .bool D ∧ w28 = wx)
                      case first =>
                        by_cases hal : lessN Lc (kk : Int) < Lc.length
                        · obtain ⟨bl, ol, hle, hbl, z0⟩ := (H9.out.2.2.to' HB28.out).atN (Below.refl _ _) hal
                          have hq := HS2.out
                          rw [List.getElem?_eq_getElem hal] at hq
                          generalize Lc[lessN Lc (kk : Int)] = gi at *
                          subst hle
                          have hal' : ((lessN Lc (kk : Int) : Nat) : Int) < (Lc.length : Int) := by omega
                          by_cases hgk : gi = (kk : Int)
                          · subst hgk
                            have hD : D = true := hq.1 rfl
                            subst hD
                            clear hq
                            go_wp2_with fail
                            go_meet
                            exact ⟨rfl, rfl⟩
                          · have hD : D = false := by
                              cases D
                              · rfl
                              · have := hq.2 rfl
                                injection this with this
                                exact absurd this hgk
                            subst hD
                            have hgb : (gi == (kk : Int)) = false := by simpa using hgk
                            clear hq hgk
                            go_wp2_with fail
                            go_meet
                            exact ⟨rfl, rfl⟩
                        · have hD : D = false := by
                            cases D
                            · rfl
                            · have := HS2.out.2 rfl
                              rw [List.getElem?_eq_none (by omega)] at this
                              cases this
                          subst hD
                          have hal' : ¬ ((lessN Lc (kk : Int) : Nat) : Int) < (Lc.length : Int) := by omega
                          go_wp2_with fail
                          go_meet
                          exact ⟨rfl, rfl⟩
                      case rest =>
                        obtain ⟨rfl, rfl⟩ := hcut
                        have hal : lessN Lc (kk : Int) ≤ 1000000 := Nat.le_trans HS3.out hlc
                        cases D
                        · go_wp2_with fail
                          go_roundw
                          case rel => exact ⟨kk + 1, by omega, by go_num, congrArg (Value.int .i64) (by rw [show ((kk + 1 : Nat) : Int) = (kk : Int) + 1 by omega, HS1.out]; simp), HB28.out⟩
                          case measure => simp [intOf]; omega
                        · go_wp2_with fail
                          go_roundw
                          case rel => exact ⟨kk + 1, by omega, by go_num, congrArg (Value.int .i64) (by rw [show ((kk + 1 : Nat) : Int) = (kk : Int) + 1 by omega, HS1.out]; simp), HB28.out⟩
                          case measure => simp [intOf]; omega
                · have HFV : Hid ((getI s (kk : Int)).isSome = T0 ∧ ((getI s (kk : Int)).isSome = true → atI' s (kk : Int) = Y)) := hide (by have := HF1.out; simpa using this)
                  obtain ⟨y0, y1, y2, y3, y4, y5⟩ := HXYZ.out.2.1.allI
                  have ly := HXYZ.out.2.1.lt
                  have lx := HXYZ.out.1.lt
                  have f0 := HXYZ.out.1.free 0
                  have f1 := HXYZ.out.1.free 1
                  have f2 := HXYZ.out.1.free 2
                  have f3 := HXYZ.out.1.free 3
                  have f4 := HXYZ.out.1.free 4
                  have f5 := HXYZ.out.1.free 5
                  obtain ⟨c0', c1', c2', c3', c4', c5'⟩ := HXYZ.out.1.allI
                  have hne1 : by' ≠ bx := HNE.out.1
                  have hne2 : bz ≠ bx := HNE.out.2.1
                  have gS : Blk ((((((w25.setCell ⟨bx, 0, none⟩ (.int .i64 Y.id)).setCell ⟨bx, 1, none⟩ (.int .i64 Y.kind)).setCell ⟨bx, 2, none⟩ (.int .i64 Y.x)).setCell ⟨bx, 3, none⟩ (.int .i64 Y.y)).setCell ⟨bx, 4, none⟩ (.string Y.text)).setCell ⟨bx, 5, none⟩ (.int .i64 Y.mod)) bx 36 (cI Y) :=
                    (((((HXYZ.out.1.set 0 (.int .i64 Y.id)).set 1 (.int .i64 Y.kind)).set 2 (.int .i64 Y.x)).set 3 (.int .i64 Y.y)).set 4 (.string Y.text)).set 5 (.int .i64 Y.mod)
                  have gY := HXYZ.out.2.1.other6 hne1 (.int .i64 Y.id) (.int .i64 Y.kind) (.int .i64 Y.x) (.int .i64 Y.y) (.string Y.text) (.int .i64 Y.mod)
                  have gZ := HXYZ.out.2.2.other6 hne2 (.int .i64 Y.id) (.int .i64 Y.kind) (.int .i64 Y.x) (.int .i64 Y.y) (.string Y.text) (.int .i64 Y.mod)
                  have hbx : w9.heap.size ≤ bx := HNE.out.2.2
                  have HB26 := hide (bset (bset (bset (bset (bset (bset HB25.out (p := ⟨bx, 0, none⟩) hbx (.int .i64 Y.id)) (p := ⟨bx, 1, none⟩) hbx (.int .i64 Y.kind)) (p := ⟨bx, 2, none⟩) hbx (.int .i64 Y.x)) (p := ⟨bx, 3, none⟩) hbx (.int .i64 Y.y)) (p := ⟨bx, 4, none⟩) hbx (.string Y.text)) (p := ⟨bx, 5, none⟩) hbx (.int .i64 Y.mod))
                  have hWf := And.intro gS (And.intro gY gZ)
                  go_upto_region 31 with (fail)
                  generalize (((((w25.setCell ⟨bx, 0, none⟩ (.int .i64 Y.id)).setCell ⟨bx, 1, none⟩ (.int .i64 Y.kind)).setCell ⟨bx, 2, none⟩ (.int .i64 Y.x)).setCell ⟨bx, 3, none⟩ (.int .i64 Y.y)).setCell ⟨bx, 4, none⟩ (.string Y.text)).setCell ⟨bx, 5, none⟩ (.int .i64 Y.mod) = w26 at *
                  clear HF1 HXYZ y0 y1 y2 y3 y4 y5 ly lx f0 f1 f2 f3 f4 f5 c0' c1' c2' c3' c4' c5' hne1 hne2 hbx gS gY gZ
                  have HW1 := hide hWf
                  clear hWf
                  have hi4 := c_rItemX A21 s.length c21 s kk w26 (by omega) (H9.out.2.1.to' HB26.out)
                  go_wp2_with fail
                  refine hi4.mono ?_
                  clear hi4
                  rintro e w27 ⟨rfl, hb27⟩
                  generalize atI' s (kk : Int) = V at *
                  generalize (getI s (kk : Int)).isSome = bV at *
                  have gV : Blk (w27.alloc (.cells #[.int .i64 V.id, .int .i64 V.kind, .int .i64 V.x, .int .i64 V.y, .string V.text, .int .i64 V.mod] 36)) w27.heap.size 36 (cI V) := Blk.new w27 36 (cI V)
                  have gs := (HW1.out.1.below hb27 HW1.out.1.lt).alloc (.cells #[.int .i64 V.id, .int .i64 V.kind, .int .i64 V.x, .int .i64 V.y, .string V.text, .int .i64 V.mod] 36)
                  have gy := (HW1.out.2.1.below hb27 HW1.out.2.1.lt).alloc (.cells #[.int .i64 V.id, .int .i64 V.kind, .int .i64 V.x, .int .i64 V.y, .string V.text, .int .i64 V.mod] 36)
                  have gz := (HW1.out.2.2.below hb27 HW1.out.2.2.lt).alloc (.cells #[.int .i64 V.id, .int .i64 V.kind, .int .i64 V.x, .int .i64 V.y, .string V.text, .int .i64 V.mod] 36)
                  have hb278 := balloc (Below.refl w27.heap.size w27) (.cells #[.int .i64 V.id, .int .i64 V.kind, .int .i64 V.x, .int .i64 V.y, .string V.text, .int .i64 V.mod] 36)
                  have HB28 := hide (bthen (bthen HB26.out hb27) hb278)
                  go_upto_region 32 with (fail)
                  generalize w27.alloc (.cells #[.int .i64 V.id, .int .i64 V.kind, .int .i64 V.x, .int .i64 V.y, .string V.text, .int .i64 V.mod] 36) = w28 at *
                  generalize w27.heap.size = bv at *
                  have HW2 := hide (And.intro gV (And.intro gs (And.intro gy gz)))
                  clear gV gs gy gz hb27 hb278
                  have hT := HFV.out.1
                  subst hT
                  go_cut [166] from 156 to 166 (fun u wx => u = .bool false ∧ w28 = wx)
                  case first =>
                    have hn1 := fun w => neqIt w V Y
                    have hf := HFV.out.2
                    obtain ⟨v0, v1, v2, v3, v4, v5⟩ := HW2.out.1.allI
                    obtain ⟨y0, y1, y2, y3, y4, y5⟩ := HW2.out.2.1.allI
                    have lv := HW2.out.1.lt
                    have ly := HW2.out.2.1.lt
                    cases bV
                    · clear hf
                      go_wp2_with fail
                      go_meet
                      exact ⟨rfl, rfl⟩
                    · have hVW : decide (V = Y) = true := decide_eq_true (hf rfl)
                      clear hf
                      have HVW := hide hVW
                      clear hVW
                      go_wp2_with fail
                      go_meet
                      exact ⟨congrArg Value.bool (by rw [HVW.out]; rfl), rfl⟩
                  case rest =>
                    obtain ⟨rfl, rfl⟩ := hcut
                    go_upto_region 34 with (fail)
                    go_cut [36] from 167 to 183 (fun u wx => u = .bool ((bX || R) && !decide (Z = Y)) ∧ w28 = wx)
                    case first =>
                      have hn1 := fun w => neqIt w Z Y
                      have hf := HF3.out
                      obtain ⟨v0, v1, v2, v3, v4, v5⟩ := HW2.out.2.2.1.allI
                      obtain ⟨y0, y1, y2, y3, y4, y5⟩ := HW2.out.2.2.2.allI
                      have lv := HW2.out.2.2.1.lt
                      have ly := HW2.out.2.2.2.lt
                      have HF := hide hf
                      clear hf
                      cases bX <;> cases R <;> cases bZ <;> cases bY <;> (go_wp2_with fail; go_meet; first | exact ⟨rfl, rfl⟩ | exact ⟨congrArg Value.bool HF.out, rfl⟩)
                    case rest =>
                      obtain ⟨rfl, rfl⟩ := hcut
                      rw [← HF2.out]
                      have HS1 : Hid (lessN Lc ((kk : Int) + 1) = lessN Lc (kk : Int) + if decide ((kk : Int) ∈ Lc) = true then 1 else 0) := hide (by rw [less_succ HCN.out.1]; simp)
                      have HS2 : Hid (Lc[lessN Lc (kk : Int)]? = some (kk : Int) ↔ decide ((kk : Int) ∈ Lc) = true) := hide (by rw [less_at HCN.out.1]; simp)
                      have HS3 := hide (show lessN Lc (kk : Int) ≤ Lc.length from List.length_filter_le _ _)
                      generalize decide ((kk : Int) ∈ Lc) = D at *
                      go_upto_region 35 with (fail)
                      go_cut [37] from 184 to 195 (fun u wx => u = .bool D ∧ w28 = wx)
                      case first =>
                        by_cases hal : lessN Lc (kk : Int) < Lc.length
                        · obtain ⟨bl, ol, hle, hbl, z0⟩ := (H9.out.2.2.to' HB28.out).atN (Below.refl _ _) hal
                          have hq := HS2.out
                          rw [List.getElem?_eq_getElem hal] at hq
                          generalize Lc[lessN Lc (kk : Int)] = gi at *
                          subst hle
                          have hal' : ((lessN Lc (kk : Int) : Nat) : Int) < (Lc.length : Int) := by omega
                          by_cases hgk : gi = (kk : Int)
                          · subst hgk
                            have hD : D = true := hq.1 rfl
                            subst hD
                            clear hq
                            go_wp2_with fail
                            go_meet
                            exact ⟨rfl, rfl⟩
                          · have hD : D = false := by
                              cases D
                              · rfl
                              · have := hq.2 rfl
                                injection this with this
                                exact absurd this hgk
                            subst hD
                            have hgb : (gi == (kk : Int)) = false := by simpa using hgk
                            clear hq hgk
                            go_wp2_with fail
                            go_meet
                            exact ⟨rfl, rfl⟩
                        · have hD : D = false := by
                            cases D
                            · rfl
                            · have := HS2.out.2 rfl
                              rw [List.getElem?_eq_none (by omega)] at this
                              cases this
                          subst hD
                          have hal' : ¬ ((lessN Lc (kk : Int) : Nat) : Int) < (Lc.length : Int) := by omega
                          go_wp2_with fail
                          go_meet
                          exact ⟨rfl, rfl⟩
                      case rest =>
                        obtain ⟨rfl, rfl⟩ := hcut
                        have hal : lessN Lc (kk : Int) ≤ 1000000 := Nat.le_trans HS3.out hlc
                        cases D
                        · go_wp2_with fail
                          go_roundw
                          case rel => exact ⟨kk + 1, by omega, by go_num, congrArg (Value.int .i64) (by rw [show ((kk + 1 : Nat) : Int) = (kk : Int) + 1 by omega, HS1.out]; simp), HB28.out⟩
                          case measure => simp [intOf]; omega
                        · go_wp2_with fail
                          go_roundw
                          case rel => exact ⟨kk + 1, by omega, by go_num, congrArg (Value.int .i64) (by rw [show ((kk + 1 : Nat) : Int) = (kk : Int) + 1 by omega, HS1.out]; simp), HB28.out⟩
                          case measure => simp [intOf]; omega
      · obtain rfl : kk = 100 := by omega
        have he : lessN Lc ((100 : Nat) : Int) = Lc.length := less_all (fun x hx => (HCN.out.2.1 x hx).2)
        rw [he]
        have HE := hide (H6.out wr (bthen H9.out.1 hbr)).2.2.2
        clear he hbr
        go_wp2_with fail
        go_ret
        exact ⟨rfl, HE.out⟩
end Go.Proofs.Ytncdombfhcfobaa
