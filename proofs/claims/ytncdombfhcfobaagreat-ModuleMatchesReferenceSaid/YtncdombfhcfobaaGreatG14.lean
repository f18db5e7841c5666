/- Contracts: the reference's Expand; few and some of the law. -/
import Derived.Test.YtncdombfhcfobaaGreatG12
namespace Go.Proofs.YtncdombfhcfobaaGreat
open Go.RowKit Go.Shelf
theorem sort_ex (l : List It) : ∃ s, SortOf l s := by
  refine ⟨l.mergeSort (fun x y => decide (x.id ≤ y.id)), List.mergeSort_perm _ _, ?_⟩
  have h := List.pairwise_mergeSort (le := fun x y : It => decide (x.id ≤ y.id)) (fun a b c => by simp only [decide_eq_true_eq]; omega) (fun a b => by simp only [Bool.or_eq_true, decide_eq_true_eq]; omega) l
  refine h.imp (fun {a b} hab => ?_)
  simp only [decide_eq_true_eq] at hab
  omega
theorem col_facts {ms : List Mo} {c : Cp} (h : validCopyB ms c = true) : SortOf (madeM ms c) (colI (itF ms c) 100) ∧ (∀ t ∈ colI (itF ms c) 100, itOk t = true ∧ (t.kind = 2 → (findM ms t.mod).isSome = true)) ∧ Dp ms 13 (colI (itF ms c) 100) := by
  obtain ⟨s, hs⟩ := sort_ex (madeM ms c)
  rw [items_made h hs]
  obtain ⟨h1, h2⟩ := made_ok h hs
  obtain ⟨hv, hc, -, hk⟩ := vc_parts h
  refine ⟨hs, fun t ht => ⟨h1 t ht, fun hk2 => ?_⟩, h2⟩
  rcases mem_madeM ((hs.1.mem_iff).1 ht) with hm | hm
  · exact knownB_parts hk t hm hk2
  · exact (mod_items hv c.mod t hm).2 hk2
def RExpandPost (ms : List Mo) (c : Cp) (w : World) (e : Ending) (w' : World) : Prop :=
  Below w.heap.size w w' ∧ ((validCopyB ms c = false ∧ e = .returned (.tuple #[.slice none 0 0, .int .i64 140])) ∨
    (validCopyB ms c = true ∧ ((expOk (plc ms 13 (colI (itF ms c) 100) [c.code] c.x c.y) = false ∧ e = .returned (.tuple #[.slice none 0 0, .int .i64 140])) ∨
      (expOk (plc ms 13 (colI (itF ms c) 100) [c.code] c.x c.y) = true ∧ ∃ A n d rows, e = .returned (.tuple #[.slice A n d, .int .i64 0]) ∧ n ≤ d ∧ d ≤ 9223372036854775807 ∧ SlR w' w'.heap.size 4 A n (rows.flatMap cP) ∧ Pls w' rows (expB (plc ms 13 (colI (itF ms c) 100) [c.code] c.x c.y))))))
set_option linter.unusedSimpArgs false in
set_option maxRecDepth 100000 in
set_option maxHeartbeats 4000000 in
theorem c_rExpand (A : Option Addr) (N cc : Nat) (rows : List MR) (ms : List Mo) (r : CR) (c : Cp) (w : World) (hN : N ≤ 9223372036854775807) (hr : SlR w w.heap.size 2 A N (rows.flatMap cM)) (hm : Mods w rows ms) (h : CpR w r c) :
    Calls Tryz.prog 22 #[.slice A N cc, crV r] w (RExpandPost ms c w) := by
  have hb0 := balloc (Below.refl w.heap.size w) (.cells #[.int .i64 r.code, .int .i64 r.mod, .int .i64 r.x, .int .i64 r.y, .slice r.a r.n r.c, .slice r.a2 r.n2 r.c2] 32)
  have gC : Blk (w.alloc (.cells #[.int .i64 r.code, .int .i64 r.mod, .int .i64 r.x, .int .i64 r.y, .slice r.a r.n r.c, .slice r.a2 r.n2 r.c2] 32)) w.heap.size 32 (cC r) := Blk.new w 32 (cC r)
  have h0 := h.to hb0
  have hr0 := hr.to' hb0
  have hm0 := hm.to hb0
  have HC := hide h.1
  have HF : Hid (∀ W : World, Below (w.alloc (.cells #[.int .i64 r.code, .int .i64 r.mod, .int .i64 r.x, .int .i64 r.y, .slice r.a r.n r.c, .slice r.a2 r.n2 r.c2] 32)).heap.size (w.alloc (.cells #[.int .i64 r.code, .int .i64 r.mod, .int .i64 r.x, .int .i64 r.y, .slice r.a r.n r.c, .slice r.a2 r.n2 r.c2] 32)) W →
      (Blk W w.heap.size 32 (cC r) ∧ SlR W W.heap.size 2 A N (rows.flatMap cM) ∧ Mods W rows ms ∧ CpR W r c) ∧ Below w.heap.size w W) := hide fun W hW => ⟨⟨gC.below hW gC.lt, hr0.to' hW, hm0.to hW, h0.to hW⟩, bthen hb0 hW⟩
  clear hb0 gC h0 hr0 hm0 hr hm h
  unfold crV
  go_enter Tryz.func22, Tryz.ntmps22
  go_upto_region 1 with (fail)
  generalize w.alloc (.cells #[.int .i64 r.code, .int .i64 r.mod, .int .i64 r.x, .int .i64 r.y, .slice r.a r.n r.c, .slice r.a2 r.n2 r.c2] 32) = w0 at *
  obtain ⟨⟨gC, sl, sm, sc⟩, hbw⟩ := HF.out w0 (Below.refl _ _)
  obtain ⟨x0, x1, x2, x3, x4, x5⟩ := gC.allC
  have lC := gC.lt
  have hk1 := c_rItems A N cc rows ms r c w0 hN sl sm sc
  have HW0 := hide hbw.size
  clear gC sl sm sc hbw
  go_wp2_with fail
  refine hk1.mono ?_
  clear hk1 x0 x1 x2 x3 x4 x5 lC
  rintro e w1 ⟨hb1, hpost⟩
  obtain ⟨⟨gC, sl, sm, sc⟩, hbw⟩ := HF.out w1 hb1
  rcases hpost with ⟨hf, rfl⟩ | ⟨ht, v, rfl, hown⟩
  · have HR := hide (show RExpandPost ms c w (.returned (.tuple #[.slice none 0 0, .int .i64 140])) w1 from ⟨hbw, .inl ⟨hf, rfl⟩⟩)
    clear hf gC sl sm sc hbw hb1
    go_wp2_with fail
    go_ret2
    exact HR.out
  · obtain ⟨hcol1, hcol2, hcol3⟩ := col_facts ht
    have hlen := colI_len (itF ms c) 100
    have HT := hide ht
    obtain ⟨s, hs⟩ : ∃ s, colI (itF ms c) 100 = s := ⟨_, rfl⟩
    have HS := hide hs
    rw [hs] at hown hcol2 hcol3 hlen
    clear hs hcol1
    obtain ⟨Ai, ci, rfl, -, -, -⟩ := SlR.of_own hown
    obtain ⟨x0, x1, x2, x3, x4, x5⟩ := gC.allC
    have lC := gC.lt
    obtain ⟨hv, hcp, -, -⟩ := vc_parts ht
    have hxy := (cpOk_parts hcp).2.2.1
    have hb2 := balloc (Below.refl w1.heap.size w1) (.cells #[.int .i64 r.code] 3)
    have gN : Blk (w1.alloc (.cells #[.int .i64 r.code] 3)) w1.heap.size 3 [.int .i64 r.code] := Blk.new w1 3 [.int .i64 r.code]
    have hmk : ModK w1.heap.size w1 rows ms := sm
    have hcall := c_rGrown 13 w1.heap.size N cc A rows ms s [r.code] r.x r.y Ai (some ⟨w1.heap.size, 0, none⟩) s.length ci 1 1 [] (.slice none 0 0) (w1.alloc (.cells #[.int .i64 r.code] 3)) hv hN hb2.size (sl.below hb2) (hmk.below hb2) hcol2 hcol3
      (by rw [HC.out.2.2.1, HC.out.2.2.2]; exact hxy) ⟨by simp, by simp⟩ (RdK.old ((own_row hown).2.2.below hb2) hb2.size) (by omega) (RdK.blk gN rfl (Nat.le_refl _)) (by rfl) (World.ownsRow_nil _ _ _ _)
    rw [show ((([] : List Yi).length : Nat) : Int) = 0 from rfl] at hcall
    have HB := hide (And.intro hbw (And.intro hb2 hbw.size))
    have HCa := hide hcall
    clear hown hcol2 hcol3 hv hcp hxy hb2 gN hmk hcall sl sm sc gC hbw hb1 ht
    go_wp2_with fail
    refine HCa.out.mono ?_
    clear HCa
    rintro e w3 ⟨hk3, ⟨hbad, rfl⟩ | ⟨hok, ys, v', rfl, hys, hgy, hv'⟩⟩
    · have HR := hide (show RExpandPost ms c w (.returned (.tuple #[.slice none 0 0, .int .i64 140])) w3 from
        ⟨bthen HB.out.1 (HB.out.2.1.trans hk3.below), .inr ⟨HT.out, .inl ⟨by rw [HS.out, ← HC.out.1, ← HC.out.2.2.1, ← HC.out.2.2.2]; exact hbad, rfl⟩⟩⟩)
      clear hk3 hbad
      go_wp2_with fail
      go_ret2
      exact HR.out
    · obtain ⟨A', c', rfl, h1, h2, h3⟩ := SlR.of_own hv'
      have HR := hide (show RExpandPost ms c w (.returned (.tuple #[.slice A' (outs ([] ++ ys)).length c', .int .i64 0])) w3 from
        ⟨bthen HB.out.1 (HB.out.2.1.trans hk3.below), .inr ⟨HT.out, .inr ⟨by rw [HS.out, ← HC.out.1, ← HC.out.2.2.1, ← HC.out.2.2.2]; exact hok, A', _, c', outs ([] ++ ys), rfl, h1, by simpa [maxLen] using h2, h3, by
          rw [HS.out, ← HC.out.1, ← HC.out.2.2.1, ← HC.out.2.2.2, ← hys, expB_out]
          exact Pls.of w3 w1.heap.size (outY ys) (fun y hy => hgy y ((List.mem_filter.1 hy).1))⟩⟩⟩)
      clear hk3 hok hys hgy hv' h1 h2 h3
      obtain ⟨M, hM⟩ : ∃ M, (([] : List Yi) ++ ys).length = M := ⟨_, rfl⟩
      rw [hM]
      clear hM
      have hMz : (0 : Int) ≤ (M : Nat) := by omega
      go_wp2_with fail
      go_ret2
      exact HR.out
/-- what the reference's Expand answers is what the package's own does -/
theorem exp_same {ms : List Mo} {c : Cp} {s : List It} (h : validCopyB ms c = true) (hs : SortOf (madeM ms c) s) : colI (itF ms c) 100 = s := items_made h hs
end Go.Proofs.YtncdombfhcfobaaGreat
/- Contracts: few and some of the law. -/
namespace Go.Proofs.YtncdombfhcfobaaGreat
open Go.RowKit Go.Shelf
theorem c_few (A : Option Addr) (n c : Nat) (w : World) (hn : n ≤ c) (hc : c ≤ 9223372036854775807) :
    Calls Tryz.prog 8 #[.slice A n c] w fun e w' => e = .returned (.slice A (min n 14) c) ∧ w = w' := by
  have hn0 : (0 : Int) ≤ (n : Int) := by omega
  have hnc : (n : Int) ≤ (c : Int) := by omega
  have hn63 : n ≤ 9223372036854775807 := by omega
  by_cases h : n ≤ 14
  · have h' : (n : Int) ≤ 14 := by omega
    have e : min n 14 = n := by omega
    rw [e]
    clear e h
    go_enter Tryz.func8, Tryz.ntmps8
    go_wp2_with fail
    go_ret
    first | exact ⟨rfl, rfl⟩ | exact ⟨(show Ending.returned (Value.slice A (min (n : Int) 14).toNat c) = Ending.returned (Value.slice A n c) by rw [show (min (n : Int) 14).toNat = n by omega]), rfl⟩
  · have h' : ¬ (n : Int) ≤ 14 := by omega
    have h'' : (14 : Int) ≤ (c : Int) := by omega
    have e : min n 14 = 14 := by omega
    rw [e]
    clear e h
    go_enter Tryz.func8, Tryz.ntmps8
    go_wp2_with fail
    go_ret
    first | exact ⟨rfl, rfl⟩ | exact ⟨(show Ending.returned (Value.slice A (min (n : Int) 14).toNat c) = Ending.returned (Value.slice A 14 c) by rw [show (min (n : Int) 14).toNat = 14 by omega]), rfl⟩
def fewR (r : MR) : MR := ⟨r.id, r.a, min r.n 14, r.c⟩
def fewM (m : Mo) : Mo := ⟨m.id, m.items.take 14⟩
def someM (ms : List Mo) : List Mo := (ms.take 6).map fewM
theorem SlR.few {w : World} {B n : Nat} {A : Option Addr} {l : List It} (h : SlR w B 6 A n (l.flatMap cI)) : SlR w B 6 A (min n 14) ((l.take 14).flatMap cI) := by
  have hl := h.lenI
  have := h.upto (m := min n 14) (by omega)
  rw [flat_take cI 6 (fun _ => rfl)] at this
  rw [show l.take 14 = l.take (min n 14) by
    by_cases hn : n ≤ 14
    · rw [Nat.min_eq_left hn, List.take_of_length_le (by omega), List.take_of_length_le (by omega)]
    · rw [Nat.min_eq_right (by omega)]]
  exact this
theorem some_mods {w : World} {rows : List MR} {ms : List Mo} (h : Mods w rows ms) : Mods w ((rows.take 6).map fewR) (someM ms) := by
  unfold someM
  refine ⟨by simp [h.1], fun k h1 h2 => ?_⟩
  have k1 : k < rows.length := by simp at h1; omega
  have k2 : k < ms.length := by rw [← h.1]; exact k1
  obtain ⟨e1, e2, e3, e4⟩ := h.2 k k1 k2
  simp only [List.getElem_map, List.getElem_take]
  exact ⟨e1, by show min rows[k].n 14 ≤ rows[k].c; omega, e3, e4.few⟩
def SomePost (ms : List Mo) (w : World) (e : Ending) (w' : World) : Prop :=
  ∃ (A : Option Addr) (n c : Nat) (rs : List MR), e = .returned (.slice A n c) ∧ n ≤ c ∧ c ≤ 9223372036854775807 ∧ n ≤ 6 ∧ SlR w' w'.heap.size 2 A n (rs.flatMap cM) ∧ Mods w' rs (someM ms) ∧ Below w.heap.size w w'
set_option linter.unusedSimpArgs false in
set_option maxRecDepth 100000 in
set_option maxHeartbeats 4000000 in
theorem c_some (A : Option Addr) (N cc : Nat) (rows : List MR) (ms : List Mo) (w : World) (hN : N ≤ 9223372036854775807) (hr : SlR w w.heap.size 2 A N (rows.flatMap cM)) (hm : Mods w rows ms) :
    Calls Tryz.prog 10 #[.slice A N cc] w (SomePost ms w) := by
  obtain ⟨i0, hi, hz0, hz1, hz2⟩ := info_parts Tryz.infoMod
  have hlr := hr.lenm
  have HL := hide hlr
  have HR := hide (And.intro hr hm)
  clear hr hm hlr
  go_enter Tryz.func10, Tryz.ntmps10
  go_wp2_with fail
  go_loopw [3, 4] (fun v jv wr => ∃ k : Nat, k ≤ N ∧ k ≤ 6 ∧ jv = .int .i64 k ∧ wr.ownsRow w.heap.size 37 2 v ((rows.take k).map fewR).length (((rows.take k).map fewR).flatMap cM) ∧ Below w.heap.size w wr) (fun _ jv _ => 6 - (intOf jv).toNat)
  case atStart => exact ⟨0, Nat.zero_le _, by omega, rfl, World.ownsRow_nil _ _ _ _, Below.refl _ _⟩
  case round =>
    obtain ⟨k, hk, hk6, rfl, ho, hbr⟩ := hrel
    obtain ⟨Av, cv, rfl, -, -, -⟩ := SlR.of_own ho
    have hlen : ((rows.take k).map fewR).length = k := by rw [List.length_map, List.length_take, HL.out]; omega
    by_cases hlt : k < N
    · by_cases hl6 : k < 6
      · have hkr : k < rows.length := by rw [HL.out]; exact hlt
        obtain ⟨b, off, hAe, hbb, z0, z1⟩ := HR.out.1.atM hbr hkr
        have hm2 := HR.out.2.2 k hkr (by rw [← HR.out.2.1]; exact hkr)
        have hqn := hm2.2.1
        have hqc := hm2.2.2.1
        have HSn := hide (show (rows.take (k + 1)).map fewR = (rows.take k).map fewR ++ [fewR rows[k]] by rw [List.take_succ_eq_append_getElem hkr, List.map_append]; rfl)
        have HA := hide hAe
        clear hm2
        generalize rows[k] = q at *
        obtain ⟨qi, qa, qn, qc⟩ := q
        simp only at z0 z1 hqn hqc
        obtain ⟨P, hP⟩ : ∃ P, (rows.take k).map fewR = P := ⟨_, rfl⟩
        rw [hP] at ho hlen
        rw [hP]
        have HSn2 := hide (show (rows.take (k + 1)).map fewR = P ++ [fewR ⟨qi, qa, qn, qc⟩] by rw [HSn.out, hP])
        have HO := hide (And.intro ho (And.intro hbr hbr.size))
        have hPl : P.length ≤ 6 := by omega
        have HPk := hide hlen
        subst hAe
        have HS := hide (fun (U : World) (h : Below wr.heap.size wr U) => (show U.cell? ⟨b, off + k * 2, none⟩ = some (.int .i64 qi) ∧ U.cell? ⟨b, off + k * 2 + 1, none⟩ = some (.slice qa qn qc) from
          ⟨(h.cell (p := ⟨b, _, none⟩) (Nat.lt_of_lt_of_le hbb hbr.size)).trans z0, (h.cell (p := ⟨b, _, none⟩) (Nat.lt_of_lt_of_le hbb hbr.size)).trans z1⟩))
        have hfew := fun (U : World) => c_few qa qn qc U hqn hqc
        have HFw := hide hfew
        clear ho hbr z0 z1 hP HSn hlen hfew HA
        go_upto_region 5 with (fail)
        refine wp_region_held_drew (S := fun U => U.cell? ⟨b, off + k * 2, none⟩ = some (.int .i64 qi) ∧ U.cell? ⟨b, off + k * 2 + 1, none⟩ = some (.slice qa qn qc)) (by kernel_rfl) (HS.out _ (bdrew (Below.refl _ _))) (fun hHeld => ?_)
        refine wpAnyH_take (i := 0) (v := ?_) rfl (by kernel_rfl) (by kernel_rfl) (by kernel_rfl) (fun _ _ _ h => h) (Or.inl ⟨by rfl, ?hy1⟩) (by assumption) ?rs1
        case hy1 => (intro w hSw; (try dsimp only at hSw); go_simp; try (with_reducible rfl))
        (try simp only [Act.put, List.setIfInBounds_toArray, List.set_cons_zero, List.set_cons_succ, List.getElem_toArray, List.getElem_cons_zero, List.getElem_cons_succ])
        refine wpAnyH_take (i := 1) (v := ?_) rfl (by kernel_rfl) (by kernel_rfl) (by kernel_rfl) (fun _ _ _ h => h) (Or.inl ⟨by rfl, ?hy2⟩) (by assumption) ?rs2
        case hy2 => (intro w hSw; (try dsimp only at hSw); go_simp; try (with_reducible rfl))
        (try simp only [Act.put, List.setIfInBounds_toArray, List.set_cons_zero, List.set_cons_succ, List.getElem_toArray, List.getElem_cons_zero, List.getElem_cons_succ])
        refine wpAnyH_take (i := 2) (v := ?_) rfl (by kernel_rfl) (by kernel_rfl) (by kernel_rfl) (fun _ _ _ h => h) (Or.inl ⟨by rfl, ?hy3⟩) (by assumption) ?rs3
        case hy3 => (intro w hSw; (try dsimp only at hSw); go_simp; try (with_reducible rfl))
        (try simp only [Act.put, List.setIfInBounds_toArray, List.set_cons_zero, List.set_cons_succ, List.getElem_toArray, List.getElem_cons_zero, List.getElem_cons_succ])
        refine wpAnyH_take (i := 3) (v := ?_) rfl (by kernel_rfl) (by kernel_rfl) (by kernel_rfl) (fun _ _ _ h => h) (Or.inl ⟨by rfl, ?hy4⟩) (by assumption) ?rs4
        case hy4 => (intro w hSw; (try dsimp only at hSw); go_simp; try (with_reducible rfl))
        (try simp only [Act.put, List.setIfInBounds_toArray, List.set_cons_zero, List.set_cons_succ, List.getElem_toArray, List.getElem_cons_zero, List.getElem_cons_succ])
        refine wpAnyH_take (i := 4) (v := ?_) rfl (by kernel_rfl) (by kernel_rfl) (by kernel_rfl) (fun _ _ _ h => h) (Or.inl ⟨by rfl, ?hy5⟩) (by assumption) ?rs5
        case hy5 => (intro w hSw; (try dsimp only at hSw); go_simp; try (with_reducible rfl))
        (try simp only [Act.put, List.setIfInBounds_toArray, List.set_cons_zero, List.set_cons_succ, List.getElem_toArray, List.getElem_cons_zero, List.getElem_cons_succ])
        refine wpAnyH_take (i := 5) (v := ?_) rfl (by kernel_rfl) (by kernel_rfl) (by kernel_rfl) (fun _ _ _ h => h) (Or.inl ⟨by rfl, ?hy6⟩) (by assumption) ?rs6
        case hy6 => (intro w hSw; (try dsimp only at hSw); go_simp; try (with_reducible rfl))
        (try simp only [Act.put, List.setIfInBounds_toArray, List.set_cons_zero, List.set_cons_succ, List.getElem_toArray, List.getElem_cons_zero, List.getElem_cons_succ])
        refine wpAnyH_take (i := 6) (v := ?_) rfl (by kernel_rfl) (by kernel_rfl) (by kernel_rfl) (fun _ _ _ h => h) (Or.inl ⟨by rfl, ?hy7⟩) (by assumption) ?rs7
        case hy7 => (intro w hSw; (try dsimp only at hSw); go_simp; try (with_reducible rfl))
        (try simp only [Act.put, List.setIfInBounds_toArray, List.set_cons_zero, List.set_cons_succ, List.getElem_toArray, List.getElem_cons_zero, List.getElem_cons_succ])
        refine wpAnyH_take (i := 7) (v := ?_) rfl (by kernel_rfl) (by kernel_rfl) (by kernel_rfl) (fun _ _ _ h => h) (Or.inl ⟨by rfl, ?hy8⟩) (by assumption) ?rs8
        case hy8 => (intro w hSw; (try dsimp only at hSw); go_simp; try (with_reducible rfl))
        (try simp only [Act.put, List.setIfInBounds_toArray, List.set_cons_zero, List.set_cons_succ, List.getElem_toArray, List.getElem_cons_zero, List.getElem_cons_succ])
        refine wpAnyH_take (i := 8) (v := ?_) rfl (by kernel_rfl) (by kernel_rfl) (by kernel_rfl) (fun _ _ _ h => h) (Or.inl ⟨by rfl, ?hy9⟩) (by assumption) ?rs9
        case hy9 => (intro w hSw; (try dsimp only at hSw); go_simp; try (with_reducible rfl))
        (try simp only [Act.put, List.setIfInBounds_toArray, List.set_cons_zero, List.set_cons_succ, List.getElem_toArray, List.getElem_cons_zero, List.getElem_cons_succ])
        refine wpAnyH_take (i := 9) (v := ?_) rfl (by kernel_rfl) (by kernel_rfl) (by kernel_rfl) (fun _ _ _ h => h) (Or.inl ⟨by rfl, ?hy10⟩) (by assumption) ?rs10
        case hy10 => (intro w hSw; (try dsimp only at hSw); go_simp; try (with_reducible rfl))
        (try simp only [Act.put, List.setIfInBounds_toArray, List.set_cons_zero, List.set_cons_succ, List.getElem_toArray, List.getElem_cons_zero, List.getElem_cons_succ])
        refine wpAnyH_take (i := 10) (v := ?_) rfl (by kernel_rfl) (by kernel_rfl) (by kernel_rfl) (fun _ _ _ h => h) (Or.inl ⟨by rfl, ?hy11⟩) (by assumption) ?rs11
        case hy11 => (intro w hSw; (try dsimp only at hSw); go_simp; try (with_reducible rfl))
        (try simp only [Act.put, List.setIfInBounds_toArray, List.set_cons_zero, List.set_cons_succ, List.getElem_toArray, List.getElem_cons_zero, List.getElem_cons_succ])
        refine wpAnyH_call (i := 11) rfl (by kernel_rfl) (by kernel_rfl) (by kernel_rfl) (fun _ _ _ h => h) (by rfl) ?he12 (fun w hSw => (HFw.out _)) (by assumption) ?rs12
        case he12 => (intro w hSw; (try dsimp only at hSw); go_simp)
        (try simp only [Act.put, List.setIfInBounds_toArray, List.set_cons_zero, List.set_cons_succ, List.getElem_toArray, List.getElem_cons_zero, List.getElem_cons_succ])
        refine wpAnyH_take (i := 12) (v := ?_) rfl (by kernel_rfl) (by kernel_rfl) (by kernel_rfl) (fun _ _ _ h => h) (Or.inl ⟨by rfl, ?hy13⟩) (by assumption) ?rs13
        case hy13 => (intro w hSw; (try dsimp only at hSw); go_simp; try (with_reducible rfl))
        (try simp only [Act.put, List.setIfInBounds_toArray, List.set_cons_zero, List.set_cons_succ, List.getElem_toArray, List.getElem_cons_zero, List.getElem_cons_succ])
        refine wpAnyH_ready (rs := [13]) (by kernel_rfl) (by simp) ?_
        refine AllReadyH.cons rfl (fun K hK => ?_) ?_
        · go_simp
          refine hK.out _ _ (by exact (HS.out _ (bdrew (balloc (Below.refl _ _) _)))) (fun hHeld => ?_)
          clear hK K
          (try simp only [Act.put, List.setIfInBounds_toArray, List.set_cons_zero, List.set_cons_succ, List.getElem_toArray, List.getElem_cons_zero, List.getElem_cons_succ])
          have hb3 : Below wr.heap.size wr ((wr.alloc (.cells #[.int .i64 qi, .slice qa (min qn 14) qc] 37)).drew) := bdrew (balloc (Below.refl _ _) _)
          have ho3 := (HO.out.1.alloc (.cells #[.int .i64 qi, .slice qa (min qn 14) qc] 37)).drew
          have gN : Blk ((wr.alloc (.cells #[.int .i64 qi, .slice qa (min qn 14) qc] 37)).drew) wr.heap.size 37 [.int .i64 qi, .slice qa (min qn 14) qc] := (Blk.new wr 37 [.int .i64 qi, .slice qa (min qn 14) qc]).drew
          generalize (wr.alloc (.cells #[.int .i64 qi, .slice qa (min qn 14) qc] 37)).drew = w3 at *
          refine wpAnyH_ready (rs := [14]) (by kernel_rfl) (by simp) ?_
          refine AllReadyH.cons (o := { dst := some 29, op := Op.call { callee := Callee.builtin Builtin.append, args := #[Operand.tmp 15, Operand.tmp 28], argTypes := #[28, 28] }, type := 28, pos := "law.go:67", after := #[{ on := 0, ground := Ground.data }, { on := 13, ground := Ground.data }, { on := 11, ground := Ground.chain }], guard := none }) rfl (fun K hK => ?_) ?_
          · refine step_append_sl (size := 2) (by rfl) _ _ 28 (by rfl) w.heap.size 37 i0 zM 32 Tryz.underlying28 hi hz0 hz1 hz2 (by rfl) (by decide) (.slice Av P.length cv) P.length (P.flatMap cM) (by rfl) ho3 1 1 (cM (fewR ⟨qi, qa, qn, qc⟩)) (by rfl) (gN.slr (n := 1) (k := 2) rfl) (Below.refl _ _) (fun u hu => oneM [fewR ⟨qi, qa, qn, qc⟩] u (by simpa using hu)) (by unfold maxLen; omega) (by omega) (Nat.le_trans HO.out.2.2 hb3.size) ?_
            intro v6 w7 ho6 hg6 hor6
            have hb7 : Below w.heap.size w w7 := Below.grown (bthen HO.out.2.1 hb3) hg6 (Nat.le_trans HO.out.2.2 hb3.size) (fun g e => (own_lt ho3 g e).1)
            have hb37 : Below wr.heap.size wr w7 ∨ True := .inr trivial
            have hcell : w7.cell? ⟨b, off + k * 2, none⟩ = some (.int .i64 qi) ∧ w7.cell? ⟨b, off + k * 2 + 1, none⟩ = some (.slice qa qn qc) := by
              have h := HS.out w3 hb3
              have hk3 : Below w.heap.size w3 w7 := Below.grown (Below.refl _ _) hg6 (Nat.le_trans HO.out.2.2 hb3.size) (fun g e => (own_lt ho3 g e).1)
              exact ⟨(hk3.cell (p := ⟨b, _, none⟩) hbb).trans h.1, (hk3.cell (p := ⟨b, _, none⟩) hbb).trans h.2⟩
            have HG := hide (And.intro ho6 hb7)
            clear ho6 hg6 hor6 hb7 hb37
            refine hK.out _ _ (by exact hcell) (fun hHeld => ?_)
            clear hK K
            (try simp only [Act.put, List.setIfInBounds_toArray, List.set_cons_zero, List.set_cons_succ, List.getElem_toArray, List.getElem_cons_zero, List.getElem_cons_succ])
            refine wpAnyH_take (i := 15) (v := ?_) rfl (by kernel_rfl) (by kernel_rfl) (by kernel_rfl) (fun _ _ _ h => h) (Or.inl ⟨by rfl, ?hy14⟩) (by assumption) ?rs14
            case hy14 => (intro w hSw; (try dsimp only at hSw); go_simp; try (with_reducible rfl))
            (try simp only [Act.put, List.setIfInBounds_toArray, List.set_cons_zero, List.set_cons_succ, List.getElem_toArray, List.getElem_cons_zero, List.getElem_cons_succ])
            refine wpAnyH_done (by kernel_rfl) ?_ _
            go_wp2_with fail
            go_roundw
            case rel =>
              refine ⟨k + 1, by omega, by omega, by go_num, ?_, HG.out.2⟩
              rw [HSn2.out, List.length_append, flatM_snoc]
              exact HG.out.1
            case measure => simp [intOf]; omega
          exact AllReadyH.nil
        exact AllReadyH.nil
      · obtain rfl : k = 6 := by omega
        have HP := hide (show SomePost ms w (.returned (.slice Av ((rows.take 6).map fewR).length cv)) wr from ⟨Av, _, cv, (rows.take 6).map fewR, rfl, (own_row ho).1, (own_row ho).2.1, by omega, (own_row ho).2.2, (some_mods HR.out.2).to hbr, hbr⟩)
        clear ho hbr hlen
        generalize ((rows.take 6).map fewR).length = M at *
        go_wp2_with fail
        go_ret
        exact HP.out
    · obtain rfl : k = N := by omega
      have h6 : (rows.take k) = rows.take 6 := by
        rw [List.take_of_length_le (by rw [HL.out]; exact Nat.le_refl _), List.take_of_length_le (by rw [HL.out]; exact hk6)]
      have HP := hide (show SomePost ms w (.returned (.slice Av ((rows.take k).map fewR).length cv)) wr from ⟨Av, _, cv, (rows.take k).map fewR, rfl, (own_row ho).1, (own_row ho).2.1, by omega, (own_row ho).2.2, by rw [h6]; exact (some_mods HR.out.2).to hbr, hbr⟩)
      clear ho hbr h6 hlen
      generalize ((rows.take k).map fewR).length = M at *
      go_wp2_with fail
      go_ret
      exact HP.out
end Go.Proofs.YtncdombfhcfobaaGreat
