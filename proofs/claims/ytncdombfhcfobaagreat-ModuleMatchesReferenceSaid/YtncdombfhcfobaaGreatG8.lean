/- Contract: the reference's Valid. -/
import Derived.Test.YtncdombfhcfobaaGreatG4
namespace Go.Proofs.YtncdombfhcfobaaGreat
open Go.RowKit Go.Shelf
/-- how deep, 0 where that is not known -/
def dv (D : List (Int × Int)) (i : Nat) : Int := (D.lookup (i : Int)).getD 0
def dCells (D : List (Int × Int)) : List Value := (List.range 21).map fun i => .int .i64 (dv D i)
theorem dCells_get (D : List (Int × Int)) {i : Nat} (h : i < 21) : (dCells D)[i]? = some (.int .i64 (dv D i)) := by
  unfold dCells
  rw [List.getElem?_map, List.getElem?_range h]
  rfl
theorem dCells_set (D : List (Int × Int)) {i : Nat} (h : i < 21) (v : Int) : (dCells D).set i (.int .i64 v) = dCells (putD (i : Int) v D) := by
  refine List.ext_getElem? fun j => ?_
  rw [List.getElem?_set]
  by_cases e : i = j
  · subst e
    rw [if_pos rfl, if_pos (by simpa [dCells] using h), dCells_get _ h]
    unfold dv
    rw [lookup_putD, if_pos rfl]
    rfl
  · rw [if_neg e]
    by_cases hj : j < 21
    · rw [dCells_get _ hj, dCells_get _ hj]
      unfold dv
      rw [lookup_putD, if_neg (by omega)]
    · rw [List.getElem?_eq_none (by simp [dCells]; omega), List.getElem?_eq_none (by simp [dCells]; omega)]
def RelN (n lv : Int) : Prop := n = lv ∨ (n = 100 ∧ lv = 13)
theorem dv_zero {D : List (Int × Int)} (h : InvD D) {i : Nat} : dv D i = 0 ↔ D.lookup (i : Int) = none := by
  unfold dv
  cases hl : D.lookup (i : Int) with
  | none => simp
  | some n =>
    have := (h _ _ hl).1
    simp only [Option.getD_some, reduceCtorEq, iff_false]
    omega
theorem dv_bd {D : List (Int × Int)} (h : InvD D) (i : Nat) : 0 ≤ dv D i ∧ dv D i ≤ 12 := by
  unfold dv
  cases hl : D.lookup (i : Int) with
  | none => simp
  | some n =>
    have := h _ _ hl
    simp only [Option.getD_some]
    omega
theorem relN_unknown {D : List (Int × Int)} {s : It} {i : Nat} (hm : s.mod = i) (hk : s.kind = 2) (hd : D.lookup (i : Int) = none) (lv : Int) : RelN 100 (lvStep D lv s) := by
  unfold lvStep
  rw [if_pos hk, hm, hd]
  exact .inr ⟨rfl, rfl⟩
theorem relN_known {D : List (Int × Int)} (h : InvD D) {s : It} {i : Nat} (hm : s.mod = i) (hk : s.kind = 2) (hd : dv D i ≠ 0) {n lv : Int} (hr : RelN n lv) : RelN (if n < dv D i + 1 then dv D i + 1 else n) (lvStep D lv s) := by
  unfold dv at *
  unfold lvStep
  rw [if_pos hk, hm]
  cases hl : D.lookup (i : Int) with
  | none => rw [hl] at hd; exact absurd rfl hd
  | some v =>
    have := h _ _ hl
    simp only [Option.getD_some]
    rcases hr with rfl | ⟨rfl, rfl⟩
    · exact .inl rfl
    · rw [if_neg (by omega), if_neg (by omega)]
      exact .inr ⟨rfl, rfl⟩
theorem relN_other {D : List (Int × Int)} {s : It} (hk : s.kind ≠ 2) {n lv : Int} (hr : RelN n lv) : RelN n (lvStep D lv s) := by
  unfold lvStep
  rw [if_neg hk]
  exact hr
theorem valid_deep {ms : List Mo} {m : Mo} (hm : m ∈ ms) (h : (deepN ms 12).lookup m.id = none) : validB ms = false := by
  cases hv : validB ms with
  | false => rfl
  | true =>
    obtain ⟨h1, h2, h3, h4⟩ := valid_parts hv
    obtain ⟨k1, k2⟩ := deepN_keys ms 12
    have := pigeon _ _ k1 k2 (by simp [h4]) m.id (List.mem_map.2 ⟨m, hm, rfl⟩)
    obtain ⟨n, hn⟩ := lookup_of_key _ _ this
    rw [h] at hn
    cases hn
theorem valid_all {ms : List Mo} (h1 : ms.length ≤ 20) (h2 : ascB 1 20 0 (ms.map (·.id)) = true) (h3 : ms.all (fun m => inB m.id 1 20 && itsOk m.items) = true) (h4 : ∀ m ∈ ms, knownB ms m.items = true) (h5 : ∀ m ∈ ms, (deepN ms 12).lookup m.id ≠ none) : validB ms = true := by
  have hl : (deepN ms 12).length = ms.length := by
    obtain ⟨k1, k2⟩ := deepN_keys ms 12
    have hn : (ms.map (·.id)).Nodup := pair_ne (ascB_parts _ _ h2).1
    have := ((List.perm_ext_iff_of_nodup k1 hn).2 fun k => ⟨k2 k, fun hk => ?_⟩).length_eq
    · simpa using this
    · obtain ⟨m, hm, rfl⟩ := List.mem_map.1 hk
      cases e : (deepN ms 12).lookup m.id with
      | none => exact absurd e (h5 m hm)
      | some n => exact key_of _ _ _ e
  unfold validB
  simp only [Bool.and_eq_true, decide_eq_true_eq]
  refine ⟨⟨⟨h1, h2⟩, ?_⟩, hl⟩
  rw [List.all_eq_true] at h3 ⊢
  intro m hm
  unfold moOk
  rw [h3 m hm, h4 m hm]
  rfl
theorem valid_known {ms : List Mo} {m : Mo} (hm : m ∈ ms) {s : It} (hs : s ∈ m.items) (h : inItem ms s = false) : validB ms = false := by
  cases hv : validB ms with
  | false => rfl
  | true =>
    have := ((valid_parts hv).2.2.1 m hm).2.2
    unfold knownB at this
    rw [List.all_eq_true] at this
    rw [this s hs] at h
    cases h
set_option linter.unusedSimpArgs false in
set_option maxRecDepth 100000 in
set_option maxHeartbeats 8000000 in
theorem c_rValid (A : Option Addr) (N c : Nat) (rows : List MR) (ms : List Mo) (w : World) (hN : N ≤ 9223372036854775807) (hr : SlR w w.heap.size 2 A N (rows.flatMap cM)) (hm : Mods w rows ms) :
    Calls Tryz.prog 12 #[.slice A N c] w fun e w' => e = .returned (.bool (validB ms)) ∧ Below w.heap.size w w' := by
  have hl := hr.lenm
  have hml : ms.length = N := by rw [← hm.1]; exact hl
  by_cases h20 : 20 < N
  · have h20' : (20 : Int) < (N : Int) := by omega
    have HR := hide (show validB ms = false by unfold validB; rw [decide_eq_false (by omega)]; rfl)
    clear hl hml hr hm
    go_enter Tryz.func12, Tryz.ntmps12
    go_wp2_with fail
    go_ret
    exact ⟨ret_bool HR.out.symm, Below.refl _ _⟩
  · have h20' : ¬ (20 : Int) < (N : Int) := by omega
    have HL := hide (And.intro hl hml)
    have HB := hide (And.intro hr hm)
    clear hl hml hr hm
    go_enter Tryz.func12, Tryz.ntmps12
    go_wp2_with fail
    go_loopw [3] (fun i wr => ∃ k : Nat, k ≤ N ∧ i = .int .i64 k ∧ AscAt 1 20 0 (ms.map (·.id)) k ∧ (ms.take k).all (fun m => inB m.id 1 20 && itsOk m.items) = true ∧ Below w.heap.size w wr) (fun i _ => N - (intOf i).toNat)
    case atStart => exact ⟨0, Nat.zero_le _, rfl, AscAt.start _ _ _ _, rfl, Below.refl _ _⟩
    case round =>
      obtain ⟨k, hk, rfl, ha, hal, hb⟩ := hrel
      obtain ⟨wo, rfl⟩ : ∃ W : World, W = wr := ⟨_, rfl⟩
      by_cases hlt : k < N
      · have hkr : k < rows.length := by rw [HL.out.1]; exact hlt
        have hkm : k < ms.length := by rw [HL.out.2]; exact hlt
        have hki : k < (ms.map (·.id)).length := by simpa using hkm
        have hrw := HB.out.1.to' hb
        obtain ⟨e1, e2, e3, e4⟩ := (HB.out.2.to hb).2 k hkr hkm
        obtain ⟨b, off, hAe, hbb, x0, x1⟩ := hrw.atM (Below.refl _ _) hkr
        subst hAe
        have fM := hrw.bwM hkr
        have hP := fun (x : BW wo) => c_rProper rows[k] ms[k].items x.val (by omega) (e4.to' x.ok)
        have hfalse : (inB ms[k].id 1 20 && itsOk ms[k].items) = false → validB ms = false := fun h => by
          have : ms.all (moOk ms) = false := List.all_eq_false.2 ⟨ms[k], List.getElem_mem hkm, by unfold moOk; rw [h]; simp⟩
          unfold validB
          rw [this]; simp
        have hnext : (inB ms[k].id 1 20 && itsOk ms[k].items) = true → (ms.take (k + 1)).all (fun m => inB m.id 1 20 && itsOk m.items) = true := fun h => by
          rw [List.take_succ_eq_append_getElem hkm, List.all_append, hal]
          simp only [List.all_cons, List.all_nil, Bool.and_true, Bool.true_and]
          exact h
        have hlow : ∀ h0 : 0 < k, ms[k].id ≤ ms[k - 1].id → validB ms = false := fun h0 h => by
          have := ha.low hki h0 (by simpa using h)
          unfold validB
          rw [this]; simp
        have hup : inB ms[k].id 1 20 = true → (∀ _ : 0 < k, ms[k - 1].id < ms[k].id) → AscAt 1 20 0 (ms.map (·.id)) (k + 1) := fun h1 h2 => ha.next hki (by simpa using h1) (by omega) (fun h0 => by simpa using h2 h0)
        have hpc : ∀ (h : 0 < k) (x : BW wo), x.val.cell? ⟨b, off + (k - 1) * 2, none⟩ = some (.int .i64 ms[k - 1].id) := fun h x => by
          have h1 := (hrw.bwM (k := k - 1) (by omega) x).1
          have h2 := ((HB.out.2.to hb).2 (k - 1) (by omega) (by omega)).1
          rw [← h2]
          exact h1
        have HH := hide (And.intro hfalse (And.intro hnext (And.intro hlow (And.intro hup hpc))))
        generalize rows[k] = q at *
        obtain ⟨qi, qa, qn, qc⟩ := q
        simp only at e1 e2 e3 e4 fM hP x0 x1
        subst e1
        obtain ⟨fM0, fM1⟩ := split2' fM
        have HP := hide hP
        have HBo := hide hb
        have hlt' : (k : Int) < (N : Int) := by omega
        have hb1 : b < wo.heap.size := hbb
        clear hfalse hnext hlow hup hpc hP fM x0 x1 e2 e3 e4 hrw ha hal hb
        cases hpr : (inB ms[k].id 1 20 && itsOk ms[k].items) with
        | false =>
          have HPR := hide (HH.out.1 hpr)
          rw [hpr] at HP
          clear hpr
          go_wp2_with fail
          refine wp_region_bw wo (Below.refl _ _) (by kernel_rfl) (by kernel_rfl) ?_
          repeat (go_big_quiet_step ((go_at_call 32; exact bw_call (HP.out _))))
          refine wpQuiet_nil ?_
          intro w1 hb2
          go_wp2_with fail
          go_ret
          exact ⟨ret_bool HPR.out.symm, bthen HBo.out hb2⟩
        | true =>
          have HPR := hide hpr
          have HIn := hide (show inB ms[k].id 1 20 = true by have := hpr; simp only [Bool.and_eq_true] at this; exact this.1)
          rw [hpr] at HP
          clear hpr
          by_cases h0 : 0 < k
          · have fp := HH.out.2.2.2.2 h0
            obtain ⟨k', hk'⟩ : ∃ k' : Nat, k = k' + 1 := ⟨k - 1, by omega⟩
            have hkk : (k : Int) - 1 = (k' : Int) := by omega
            have hk0 : (0 : Int) < (k : Int) := by omega
            have hkl' : (k' : Int) < (N : Int) := by omega
            obtain ⟨pv, hpv⟩ : ∃ pv, pv = ms[k - 1].id := ⟨_, rfl⟩
            have hlow : ms[k].id ≤ pv → validB ms = false := fun h => HH.out.2.2.1 h0 (by rw [← hpv]; exact h)
            have hup : pv < ms[k].id → AscAt 1 20 0 (ms.map (·.id)) (k + 1) := fun h => HH.out.2.2.2.1 HIn.out (fun _ => by rw [← hpv]; exact h)
            rw [← hpv, show k - 1 = k' by omega] at fp
            clear hpv
            have HK' := hide hk'
            clear hk'
            by_cases h3 : ms[k].id ≤ pv
            · have HR := hide (hlow h3)
              clear hlow hup
              go_wp2_with fail
              refine wp_region_bw wo (Below.refl _ _) (by kernel_rfl) (by kernel_rfl) ?_
              repeat (go_big_quiet_step ((go_at_call 32; exact bw_call (HP.out _))))
              refine wpQuiet_nil ?_
              intro w1 hb2
              go_wp2_with fail
              go_ret
              exact ⟨ret_bool HR.out.symm, bthen HBo.out hb2⟩
            · have HU := hide (hup (by omega))
              clear hlow hup
              go_wp2_with fail
              refine wp_region_bw wo (Below.refl _ _) (by kernel_rfl) (by kernel_rfl) ?_
              repeat (go_big_quiet_step ((go_at_call 32; exact bw_call (HP.out _))))
              refine wpQuiet_nil ?_
              intro w1 hb2
              go_wp2_with fail
              go_roundw
              case rel => exact ⟨k + 1, by omega, by go_num, HU.out, HH.out.2.1 HPR.out, bthen HBo.out hb2⟩
              case measure => simp [intOf]; omega
          · have hk0 : ¬ (0 : Int) < (k : Int) := by omega
            have HU := hide (HH.out.2.2.2.1 HIn.out (fun h => absurd h h0))
            go_wp2_with fail
            refine wp_region_bw wo (Below.refl _ _) (by kernel_rfl) (by kernel_rfl) ?_
            repeat (go_big_quiet_step ((go_at_call 32; exact bw_call (HP.out _))))
            refine wpQuiet_nil ?_
            intro w1 hb2
            go_wp2_with fail
            go_roundw
            case rel => exact ⟨k + 1, by omega, by go_num, HU.out, HH.out.2.1 HPR.out, bthen HBo.out hb2⟩
            case measure => simp [intOf]; omega
      · have HAs := hide (ha.done (by rw [List.length_map, HL.out.2]; omega))
        have HPr := hide (show ms.all (fun m => inB m.id 1 20 && itsOk m.items) = true by
          have := hal
          rwa [List.take_of_length_le (by rw [HL.out.2]; omega)] at this)
        have HBo := hide hb
        have HB1 := hide (And.intro (HB.out.1.to' hb) (HB.out.2.to hb))
        clear ha hal hb
        have gD : Blk (wo.alloc (.cells (dCells []).toArray 86)) wo.heap.size 86 (dCells []) := Blk.new wo 86 (dCells [])
        have hb1 := balloc (Below.refl wo.heap.size wo) (.cells (dCells []).toArray 86)
        go_upto_region 9 with (fail)
        change Code.wp _ _ _ _ (wo.alloc (.cells (dCells []).toArray 86))
        have HBd := hide (show wo.heap.size ≤ wo.heap.size from Nat.le_refl _)
        generalize wo.alloc (.cells (dCells []).toArray 86) = w1 at *
        go_wp2_with fail
        go_loopw [5] (fun tv wr => ∃ t : Nat, t ≤ 12 ∧ tv = .int .i64 t ∧ Blk wr wo.heap.size 86 (dCells (deepN ms t)) ∧ (0 < t → ∀ m ∈ ms, knownB ms m.items = true) ∧ Below wo.heap.size wo wr) (fun tv _ => 12 - (intOf tv).toNat)
        case atStart => exact ⟨0, by omega, rfl, gD, fun h => absurd h (by omega), hb1⟩
        case round =>
          obtain ⟨t, ht, rfl, gT, hkn, hbt⟩ := hrel
          obtain ⟨wt, rfl⟩ : ∃ W : World, W = wr := ⟨_, rfl⟩
          clear gD hb1
          by_cases htl : t < 12
          · have HKn := hide hkn
            clear hkn
            go_wp2_with fail
            go_loopw [6] (fun iv wr => ∃ i : Nat, i ≤ N ∧ iv = .int .i64 i ∧ Blk wr wo.heap.size 86 (dCells ((ms.take i).foldl dStep (deepN ms t))) ∧ (∀ m ∈ ms.take i, knownB ms m.items = true) ∧ Below wo.heap.size wo wr) (fun iv _ => N - (intOf iv).toNat)
            case atStart => exact ⟨0, by omega, rfl, gT, (by intro m hm; cases hm), hbt⟩
            case round =>
              have hdt : decide ((t : Int) < 12) = true := decide_eq_true (by omega)
              simp only [hdt] at *
              obtain ⟨i, hi, rfl, gI, hki, hbi⟩ := hrel
              obtain ⟨wi, rfl⟩ : ∃ W : World, W = wr := ⟨_, rfl⟩
              clear gT hbt
              by_cases hil : i < N
              · have hir : i < rows.length := by rw [HL.out.1]; exact hil
                have him : i < ms.length := by rw [HL.out.2]; exact hil
                have HKi := hide hki
                have HInv := hide (dFold_inv (ms.take i) (deepN ms t) (deepN_inv ms t))
                have HStep := hide (dFold_snoc ms (deepN ms t) i him)
                have hpi : inB ms[i].id 1 20 = true ∧ itsOk ms[i].items = true := by
                  have := List.all_eq_true.1 HPr.out ms[i] (List.getElem_mem him)
                  simpa [Bool.and_eq_true] using this
                have HPi := hide hpi
                have HMm := hide (show ms[i] ∈ ms from List.getElem_mem him)
                have HTk := hide (show ∀ P : Mo → Prop, (∀ m ∈ ms.take i, P m) → P ms[i] → ∀ m ∈ ms.take (i + 1), P m from fun P h1 h2 m hm => by
                  rw [List.take_succ_eq_append_getElem him] at hm
                  rcases List.mem_append.1 hm with h | h
                  · exact h1 m h
                  · rw [List.mem_singleton.1 h]; exact h2)
                have HRow := hide (fun (W : World) (hW : Below wo.heap.size wo W) => HB1.out.1.to' hW)
                have hrw := HB1.out.1.to' hbi
                obtain ⟨e1, e2, e3, -⟩ := (HB1.out.2.to hbi).2 i hir him
                have HIt := hide (fun (W : World) (hW : Below wo.heap.size wo W) => ((HB1.out.2.to hW).2 i hir him).2.2.2)
                obtain ⟨b, off, hAe, hbb, -, -⟩ := HB1.out.1.atM (Below.refl _ _) hir
                have HCl : Hid (∀ (W : World) (hW : Below wo.heap.size wo W), W.cell? ⟨b, off + i * 2, none⟩ = some (.int .i64 rows[i].id) ∧ W.cell? ⟨b, off + i * 2 + 1, none⟩ = some (.slice rows[i].a rows[i].n rows[i].c)) := hide fun W hW => by
                  obtain ⟨b', o', ee, -, z0, z1⟩ := HB1.out.1.atM hW hir
                  rw [hAe] at ee
                  cases ee
                  exact ⟨z0, z1⟩
                subst hAe
                have hlen : ms[i].items.length = rows[i].n := (HIt.out wi hbi).lenI
                have hb12 := itsOk_len hpi.2
                generalize (ms.take i).foldl dStep (deepN ms t) = D at *
                generalize ms[i] = m at *
                generalize rows[i] = q at *
                obtain ⟨qi, qa, qn, qc⟩ := q
                simp only at e1 e2 e3 HIt HCl hlen
                subst e1
                have HLn := hide hlen
                have hqn : qn ≤ 12 := by omega
                have hil' : (i : Int) < (N : Int) := by omega
                have HGI := hide gI
                have HBi := hide hbi
                clear hlen hki hpi gI hrw e2 e3 hir him hbi
                go_wp2_with fail
                go_loopw [7, 8] (fun nv jv wr => ∃ (j : Nat) (n : Int), j ≤ qn ∧ jv = .int .i64 j ∧ nv = .int .i64 n ∧ RelN n ((m.items.take j).foldl (lvStep D) 1) ∧ 1 ≤ n ∧ n ≤ 100 ∧ (m.items.take j).all (inItem ms) = true ∧ Below wi.heap.size wi wr) (fun _ jv _ => qn - (intOf jv).toNat)
                case atStart => exact ⟨0, 1, by omega, rfl, rfl, .inl rfl, by omega, by omega, rfl, Below.refl _ _⟩
                case round =>
                  obtain ⟨j, n, hj, rfl, rfl, hrn, hn1, hn2, haj, hbj⟩ := hrel
                  obtain ⟨wj, rfl⟩ : ∃ W : World, W = wr := ⟨_, rfl⟩
                  have HBj := hide (And.intro (bthen HBi.out hbj) (HGI.out.below hbj HGI.out.lt))
                  by_cases hjl : j < qn
                  · have hjm : j < m.items.length := by rw [HLn.out]; exact hjl
                    have hsl := HIt.out wj HBj.out.1
                    obtain ⟨bi, oi, hQe, hbi2, x0, x1, x2, x3, x4, x5⟩ := hsl.atI (Below.refl _ _) hjm
                    obtain ⟨c0, c1⟩ := HCl.out wj HBj.out.1
                    have hbw : b < wj.heap.size := Nat.lt_of_lt_of_le hbb HBj.out.1.size
                    have HSn := hide (show (m.items.take (j + 1)).foldl (lvStep D) 1 = lvStep D ((m.items.take j).foldl (lvStep D) 1) m.items[j] by rw [List.take_succ_eq_append_getElem hjm, List.foldl_append]; rfl)
                    have HAl := hide (show inItem ms m.items[j] = true → (m.items.take (j + 1)).all (inItem ms) = true from fun h => by
                      rw [List.take_succ_eq_append_getElem hjm, List.all_append, haj]
                      simp [h])
                    have HBad := hide (show inItem ms m.items[j] = false → validB ms = false from fun h => valid_known HMm.out (List.getElem_mem hjm) h)
                    have HOk := hide ((itsOk_parts HPi.out.2).2.2.2 m.items[j] (List.getElem_mem hjm))
                    have HRN := hide hrn
                    subst hQe
                    generalize hse : m.items[j] = s at x0 x1 x2 x3 x4 x5 HSn HAl HBad HOk
                    have gS : Blk (wj.alloc (.cells #[.int .i64 s.id, .int .i64 s.kind, .int .i64 s.x, .int .i64 s.y, .string s.text, .int .i64 s.mod] 27)) wj.heap.size 27 (cI s) := Blk.new wj 27 (cI s)
                    have hb3 := balloc (Below.refl wj.heap.size wj) (.cells #[.int .i64 s.id, .int .i64 s.kind, .int .i64 s.x, .int .i64 s.y, .string s.text, .int .i64 s.mod] 27)
                    have HBs := hide (And.intro (bthen HBj.out.1 hb3) (And.intro (HBj.out.2.below hb3 HBj.out.2.lt) (bthen hbj hb3)))
                    have hjl' : (j : Int) < (qn : Int) := by omega
                    clear hsl hrn haj hbj hb3 hse
                    go_upto_region 20 with (fail)
                    clear x0 x1 x2 x3 x4 x5 c0 c1
                    generalize wj.alloc (.cells #[.int .i64 s.id, .int .i64 s.kind, .int .i64 s.x, .int .i64 s.y, .string s.text, .int .i64 s.mod] 27) = ws at *
                    generalize wj.heap.size = bs at *
                    obtain ⟨x0, x1, x2, x3, x4, x5⟩ := gS.allI
                    have lS := gS.lt
                    by_cases hk2 : s.kind = 2
                    · have hkb : (s.kind != 2) = false := by simpa using hk2
                      have hmod : 1 ≤ s.mod ∧ s.mod ≤ 20 := by
                        rcases (itOk_parts HOk.out).2 with ⟨h, _⟩ | ⟨_, _, h⟩
                        · omega
                        · exact h
                      obtain ⟨mi, hmi⟩ : ∃ mi : Nat, s.mod = (mi : Int) := ⟨s.mod.toNat, by omega⟩
                      have hmi21 : mi < 21 := by omega
                      have HMi := hide hmi
                      have HK2 := hide hk2
                      rw [hmi] at x5
                      have hfd := c_rFind (some ⟨b, off, none⟩) N c rows (mi : Int) ws hN (HRow.out ws HBs.out.1)
                      clear hk2 hmi hmod
                      rcases idxF_cases (fun r : MR => decide (r.id = (mi : Int))) rows 0 with ⟨h1, -, h3⟩ | ⟨jj, hjj, h1, -, h3, -⟩
                      · rw [h1] at hfd
                        have HR := hide (HBad.out (by
                          unfold inItem
                          rcases (HB1.out.2).find (n := s.mod) with ⟨-, h⟩ | ⟨r, m2, h, -⟩
                          · rw [h, HK2.out]; rfl
                          · rw [HMi.out] at h
                            rw [show fndR rows (mi : Int) = none from h3] at h
                            cases h))
                        clear h1 h3
                        go_wp2_with fail
                        refine hfd.mono ?_
                        clear hfd
                        rintro e w3 ⟨rfl, rfl⟩
                        go_wp2_with fail
                        go_ret
                        exact ⟨ret_bool HR.out.symm, bthen HBo.out HBs.out.1⟩
                      · rw [h1, Nat.zero_add] at hfd
                        obtain ⟨fz, hfz⟩ : ∃ fz : Int, fz = (jj : Int) := ⟨_, rfl⟩
                        rw [← hfz] at hfd
                        have hjj0 : ¬ fz < 0 := by omega
                        have HFz := hide hfz
                        clear hfz
                        have HAl2 := hide (HAl.out (by
                          unfold inItem
                          rcases (HB1.out.2).find (n := s.mod) with ⟨h, -⟩ | ⟨r, m2, -, h, -⟩
                          · rw [HMi.out] at h
                            rw [show fndR rows (mi : Int) = some rows[jj] from h3] at h
                            cases h
                          · rw [h]; simp))
                        have hcell := (HBs.out.2.1.cell mi).trans (dCells_get D hmi21)
                        have lD := HBs.out.2.1.lt
                        have hd := dv_bd HInv.out mi
                        clear h1 h3 hjj
                        go_upto_region 21 with (fail)
                        go_cut [79] from 75 to 79 (fun u wx => u = .bool false ∧ ws = wx)
                        case first =>
                          go_wp2_with fail
                          refine hfd.mono ?_
                          rintro e w3 ⟨rfl, rfl⟩
                          go_wp2_with fail
                          (try rw [show decide (fz < 0) = false from decide_eq_false (by omega)])
                          go_meet
                          exact ⟨rfl, rfl⟩
                        case rest =>
                          obtain ⟨rfl, rfl⟩ := hcut
                          clear hfd
                          by_cases hz : dv D mi = 0
                          · have HRel := hide (relN_unknown (D := D) HMi.out HK2.out ((dv_zero HInv.out).1 hz) ((m.items.take j).foldl (lvStep D) 1))
                            rw [hz] at hcell
                            clear hd hz
                            go_wp2_with fail
                            go_roundw
                            case rel => exact ⟨j + 1, 100, by omega, by go_num, rfl, by rw [HSn.out]; exact HRel.out, by omega, by omega, HAl2.out, HBs.out.2.2⟩
                            case measure => simp [intOf]; omega
                          · have HRel := hide (relN_known HInv.out HMi.out HK2.out hz HRN.out)
                            have hzb : (dv D mi == 0) = false := by simpa using hz
                            generalize dv D mi = dd at *
                            have HZ := hide hz
                            clear hz
                            by_cases hlt2 : n < dd + 1
                            · rw [if_pos hlt2] at HRel
                              go_wp2_with fail
                              go_roundw
                              case rel => exact ⟨j + 1, dd + 1, by omega, by go_num, congrArg (Value.int .i64) (by omega), by rw [HSn.out]; exact HRel.out, by omega, by omega, HAl2.out, HBs.out.2.2⟩
                              case measure => simp [intOf]; omega
                            · rw [if_neg hlt2] at HRel
                              go_wp2_with fail
                              go_roundw
                              case rel => exact ⟨j + 1, n, by omega, by go_num, congrArg (Value.int .i64) (by omega), by rw [HSn.out]; exact HRel.out, by omega, by omega, HAl2.out, HBs.out.2.2⟩
                              case measure => simp [intOf]; omega
                    · have hkb : (s.kind != 2) = true := by simpa using hk2
                      have HRel := hide (relN_other (D := D) hk2 HRN.out)
                      have HAl2 := hide (HAl.out (by unfold inItem; rw [decide_eq_false hk2]; rfl))
                      have HK2 := hide hk2
                      clear hk2
                      go_wp2_with fail
                      go_roundw
                      case rel => exact ⟨j + 1, n, by omega, by go_num, congrArg (Value.int .i64) (by omega), by rw [HSn.out]; exact HRel.out, by omega, by omega, HAl2.out, HBs.out.2.2⟩
                      case measure => simp [intOf]; omega
                  · obtain rfl : qn = j := by omega
                    have HKm := hide (show knownB ms m.items = true by
                      have := haj
                      rwa [List.take_of_length_le (by rw [HLn.out]; omega)] at this)
                    have HRel := hide (show RelN n (levels D m.items) by
                      have := hrn
                      rwa [List.take_of_length_le (by rw [HLn.out]; omega)] at this)
                    obtain ⟨c0, c1⟩ := HCl.out wj HBj.out.1
                    have hbw : b < wj.heap.size := Nat.lt_of_lt_of_le hbb HBj.out.1.size
                    have HNext := hide (HTk.out (fun m => knownB ms m.items = true) HKi.out HKm.out)
                    clear hrn haj hbj
                    by_cases hn12 : n ≤ 12
                    · have hlv : n = levels D m.items := by
                        rcases HRel.out with h | ⟨h, -⟩
                        · exact h
                        · omega
                      obtain ⟨id0, hid⟩ : ∃ id0 : Nat, m.id = (id0 : Int) := ⟨m.id.toNat, by have := inB_iff.1 HPi.out.1; omega⟩
                      have hid21 : id0 < 21 := by have := inB_iff.1 HPi.out.1; omega
                      have HD' := hide (show dStep D m = putD (id0 : Int) n D by unfold dStep; rw [if_pos (by omega), ← hlv, hid])
                      have HId := hide hid
                      rw [hid] at c0
                      have gS := HBj.out.2.set id0 (.int .i64 n)
                      rw [dCells_set D hid21 n] at gS
                      have HG2 := hide (And.intro gS (bset (bthen HBj.out.1 (Below.refl _ _)) (p := ⟨wo.heap.size, id0, none⟩) (Nat.le_refl _) (.int .i64 n)))
                      have fz := HBj.out.2.free id0
                      have hcell := (HBj.out.2.cell id0).trans (dCells_get D hid21)
                      have lD := HBj.out.2.lt
                      clear hlv hid gS
                      go_wp2_with fail
                      go_roundw
                      case rel => exact ⟨i + 1, by omega, by go_num, by rw [HStep.out, HD'.out]; exact HG2.out.1, HNext.out, HG2.out.2⟩
                      case measure => simp [intOf]; omega
                    · have HD' := hide (show dStep D m = D by
                        unfold dStep
                        rw [if_neg]
                        rcases HRel.out with h | ⟨-, h⟩
                        · omega
                        · omega)
                      go_wp2_with fail
                      go_roundw
                      case rel => exact ⟨i + 1, by omega, by go_num, by rw [HStep.out, HD'.out]; exact HBj.out.2, HNext.out, HBj.out.1⟩
                      case measure => simp [intOf]; omega
              · obtain rfl : N = i := by omega
                have hfull : (ms.take N).foldl dStep (deepN ms t) = deepN ms (t + 1) := by
                  rw [← HL.out.2, List.take_length]
                  rfl
                rw [hfull] at gI
                have HK2 := hide (show ∀ m ∈ ms, knownB ms m.items = true by
                  have := hki
                  rwa [← HL.out.2, List.take_length] at this)
                have HGI := hide gI
                clear hfull hki gI
                go_wp2_with fail
                go_roundw
                case rel => exact ⟨t + 1, by omega, by go_num, HGI.out, fun _ => HK2.out, hbi⟩
                case measure => simp [intOf]; omega
          · obtain rfl : t = 12 := by omega
            have HInv := hide (deepN_inv ms 12)
            have HKn := hide (hkn (by omega))
            clear hkn
            go_wp2_with fail
            go_loopw [10] (fun iv wr => ∃ i : Nat, i ≤ N ∧ iv = .int .i64 i ∧ (∀ m ∈ ms.take i, (deepN ms 12).lookup m.id ≠ none) ∧ wt = wr) (fun iv _ => N - (intOf iv).toNat)
            case atStart => exact ⟨0, by omega, rfl, (by intro m hm; cases hm), rfl⟩
            case round =>
              obtain ⟨i, hi, rfl, hki, rfl⟩ := hrel
              by_cases hil : i < N
              · have hir : i < rows.length := by rw [HL.out.1]; exact hil
                have him : i < ms.length := by rw [HL.out.2]; exact hil
                have hpi : inB ms[i].id 1 20 = true := by
                  have := List.all_eq_true.1 HPr.out ms[i] (List.getElem_mem him)
                  simp only [Bool.and_eq_true] at this
                  exact this.1
                have hrw := HB1.out.1.to' hbt
                obtain ⟨e1, -, -, -⟩ := (HB1.out.2.to hbt).2 i hir him
                obtain ⟨b, off, hAe, hbb, z0, z1⟩ := hrw.atM (Below.refl _ _) hir
                subst hAe
                rw [e1] at z0
                obtain ⟨id0, hid⟩ : ∃ id0 : Nat, ms[i].id = (id0 : Int) := ⟨ms[i].id.toNat, by have := inB_iff.1 hpi; omega⟩
                have hid21 : id0 < 21 := by have := inB_iff.1 hpi; omega
                have HF := hide (show (deepN ms 12).lookup (id0 : Int) = none → validB ms = false from fun h => valid_deep (List.getElem_mem him) (by rw [hid]; exact h))
                have HT := hide (show (deepN ms 12).lookup (id0 : Int) ≠ none → ∀ m ∈ ms.take (i + 1), (deepN ms 12).lookup m.id ≠ none from fun h m hm => by
                  rw [List.take_succ_eq_append_getElem him] at hm
                  rcases List.mem_append.1 hm with h' | h'
                  · exact hki m h'
                  · rw [List.mem_singleton.1 h', hid]; exact h)
                rw [hid] at z0
                have hcell := (gT.cell id0).trans (dCells_get (deepN ms 12) hid21)
                have lD := gT.lt
                have hil' : (i : Int) < (N : Int) := by omega
                have HGT := hide (And.intro gT hbt)
                clear hid hpi e1 hki hir him hrw z1
                by_cases hz : dv (deepN ms 12) id0 = 0
                · have HR := hide (HF.out ((dv_zero HInv.out).1 hz))
                  rw [hz] at hcell
                  clear hz gT hbt
                  go_wp2_with fail
                  go_ret
                  exact ⟨ret_bool HR.out.symm, bthen HBo.out HGT.out.2⟩
                · have HR := hide (HT.out (fun h => hz ((dv_zero HInv.out).2 h)))
                  have hzb : (dv (deepN ms 12) id0 == 0) = false := by simpa using hz
                  generalize dv (deepN ms 12) id0 = dd at *
                  have HZ := hide hz
                  clear hz
                  go_wp2_with fail
                  go_roundw
                  case rel => exact ⟨i + 1, by omega, by go_num, HR.out, trivial⟩
                  case measure => simp [intOf]; omega
              · have HR := hide (show validB ms = true from valid_all (by rw [HL.out.2]; omega) HAs.out HPr.out HKn.out (by
                  have := hki
                  rwa [List.take_of_length_le (by rw [HL.out.2]; omega)] at this))
                have HBt := hide (bthen HBo.out hbt)
                clear hki
                go_wp2_with fail
                go_ret
                exact ⟨ret_bool HR.out.symm, HBt.out⟩
end Go.Proofs.YtncdombfhcfobaaGreat
/- Contracts of the reference's ProperCopy, ValidCopy. -/
namespace Go.Proofs.YtncdombfhcfobaaGreat
open Go.RowKit Go.Shelf
/-- what the reference's first test of an instance finds -/
def pcV (c : Cp) : Bool := !(codeB c.code && inB c.mod 1 20 && plB c.x c.y && itsOk c.changes)
def gnV (v : Int) (k : Nat) (pv : Int) : Bool := decide (v < 0) || decide (99 < v) || (decide (0 < k) && decide (v ≤ pv))
set_option linter.unusedSimpArgs false in
set_option maxRecDepth 100000 in
set_option maxHeartbeats 8000000 in
theorem c_rProperCopy (r : CR) (c : Cp) (w : World) (h : CpR w r c) :
    Calls Tryz.prog 16 #[crV r] w fun e w' => e = .returned (.bool (cpOk c)) ∧ Below w.heap.size w w' := by
  have hb0 := balloc (Below.refl w.heap.size w) (.cells #[.int .i64 r.code, .int .i64 r.mod, .int .i64 r.x, .int .i64 r.y, .slice r.a r.n r.c, .slice r.a2 r.n2 r.c2] 32)
  have gC : Blk (w.alloc (.cells #[.int .i64 r.code, .int .i64 r.mod, .int .i64 r.x, .int .i64 r.y, .slice r.a r.n r.c, .slice r.a2 r.n2 r.c2] 32)) w.heap.size 32 (cC r) := Blk.new w 32 (cC r)
  have h0 := h.to hb0
  obtain ⟨⟨e1, e2, e3, e4⟩, ⟨n1, n2, hr⟩, ⟨m1, m2, hs⟩⟩ := h0
  have hl := hr.lenI
  have hl2 := hs.lenN
  have HE := hide (And.intro e1 (And.intro e2 (And.intro e3 e4)))
  have HL := hide (And.intro hl hl2)
  have hk1 := c_rPlace r.x r.y
  clear h e1 e2 e3 e4 hl hl2
  unfold crV
  go_enter Tryz.func16, Tryz.ntmps16
  go_upto_region 1 with (fail)
  generalize w.alloc (.cells #[.int .i64 r.code, .int .i64 r.mod, .int .i64 r.x, .int .i64 r.y, .slice r.a r.n r.c, .slice r.a2 r.n2 r.c2] 32) = w0 at *
  have HG := hide (And.intro gC hb0)
  have HS := hide (And.intro hr hs)
  obtain ⟨x0, x1, x2, x3, x4, x5⟩ := gC.allC
  have lC := gC.lt
  have hk2 := fun (W : World) (hW : Below w0.heap.size w0 W) => c_rProperItems r.a r.n r.c c.changes W (by omega) (hr.to' hW)
  have HK2 := hide hk2
  have HK1 := hide hk1
  clear hk1 hk2 gC hb0 hr hs
  go_cut [40] from 5 to 40 (fun u wx => u = .bool (pcV c) ∧ Below w0.heap.size w0 wx)
  case first =>
    by_cases h1 : r.code < 1
    · have H1 := hide h1
      have HX := hide (show pcV c = true by unfold pcV codeB inB; rw [← HE.out.1, decide_eq_false (by have := H1.out; omega)]; rfl)
      go_wp2_with fail
      go_meet
      exact ⟨congrArg Value.bool HX.out.symm, Below.refl _ _⟩
    · by_cases h2 : 39999 < r.code
      · have H2 := hide h2
        have HX := hide (show pcV c = true by unfold pcV codeB inB; rw [← HE.out.1, decide_eq_false (show ¬ r.code ≤ 39999 by have := H2.out; omega)]; simp)
        go_wp2_with fail
        go_meet
        exact ⟨congrArg Value.bool HX.out.symm, Below.refl _ _⟩
      · have HT := hide (show r.code.tmod 1000 = r.code % 1000 from Int.tmod_eq_emod_of_nonneg (by omega))
        by_cases h3 : r.code % 1000 = 0
        · have H3 := hide h3
          have h3' : (r.code % 1000 == 0) = true := by simpa using h3
          clear h3
          have HX := hide (show pcV c = true by unfold pcV codeB; rw [← HE.out.1, HT.out, decide_eq_true H3.out]; simp)
          go_wp2_with fail
          go_meet
          exact ⟨congrArg Value.bool HX.out.symm, Below.refl _ _⟩
        · have H3 := hide (And.intro h1 (And.intro h2 h3))
          have h3' : (r.code % 1000 == 0) = false := by simpa using h3
          have H3b := hide h3
          clear h3
          by_cases h4 : r.mod < 1
          · have H4 := hide h4
            have HX := hide (show pcV c = true by unfold pcV inB; rw [← HE.out.2.1, decide_eq_false (show ¬ 1 ≤ r.mod by have := H4.out; omega)]; simp)
            go_wp2_with fail
            go_meet
            exact ⟨congrArg Value.bool HX.out.symm, Below.refl _ _⟩
          · by_cases h5 : 20 < r.mod
            · have H5 := hide h5
              have HX := hide (show pcV c = true by unfold pcV inB; rw [← HE.out.2.1, decide_eq_false (show ¬ r.mod ≤ 20 by have := H5.out; omega)]; simp)
              go_wp2_with fail
              go_meet
              exact ⟨congrArg Value.bool HX.out.symm, Below.refl _ _⟩
            · have H5 := hide (And.intro h4 h5)
              have HC := hide (show (codeB c.code && inB c.mod 1 20) = true by
                rw [← HE.out.1, ← HE.out.2.1]
                unfold codeB inB
                have a1 := H3.out.1
                have a2 := H3.out.2.1
                have a3 : ¬ r.code.tmod 1000 = 0 := by rw [HT.out]; exact H3.out.2.2
                have a4 := H5.out
                simp only [Bool.and_eq_true, decide_eq_true_eq, Bool.not_eq_true', decide_eq_false_iff_not]
                exact ⟨⟨⟨by omega, by omega⟩, a3⟩, by omega, by omega⟩)
              have hq := HK1.out w0
              cases hp : plB r.x r.y with
              | false =>
                rw [hp] at hq
                have HX := hide (show pcV c = true by unfold pcV; rw [HC.out, ← HE.out.2.2.1, ← HE.out.2.2.2, hp]; rfl)
                clear hp
                go_wp2_with fail
                refine hq.mono ?_
                clear hq
                rintro e w3 ⟨rfl, hb3⟩
                go_wp2_with fail
                go_meet
                exact ⟨congrArg Value.bool HX.out.symm, hb3⟩
              | true =>
                rw [hp] at hq
                have HX := hide (show pcV c = !itsOk c.changes by unfold pcV; rw [HC.out, ← HE.out.2.2.1, ← HE.out.2.2.2, hp]; rfl)
                clear hp
                go_wp2_with fail
                refine hq.mono ?_
                clear hq
                rintro e w3 ⟨rfl, hb3⟩
                have hq2 := HK2.out w3 hb3
                have gC3 := HG.out.1.below hb3 HG.out.1.lt
                obtain ⟨y0, y1, y2, y3, y4, y5⟩ := gC3.allC
                have lC3 := gC3.lt
                clear gC3
                go_wp2_with fail
                refine hq2.mono ?_
                clear hq2
                rintro e w4 ⟨rfl, hb4⟩
                go_wp2_with fail
                go_meet
                exact ⟨congrArg Value.bool HX.out.symm, bthen hb3 hb4⟩
  case rest =>
    obtain ⟨w1, rfl⟩ : ∃ W : World, W = wc := ⟨_, rfl⟩
    obtain ⟨rfl, hb1⟩ := hcut
    have gC := HG.out.1.below hb1 HG.out.1.lt
    clear x0 x1 x2 x3 x4 x5 lC
    cases hP : pcV c with
    | true =>
      have HR := hide (show cpOk c = false by
        unfold pcV at hP
        unfold cpOk
        simp only [Bool.not_eq_true'] at hP
        rw [hP]
        rfl)
      have HB := hide (bthen HG.out.2 hb1)
      clear hP hb1 gC
      go_wp2_with fail
      go_ret
      exact ⟨ret_bool HR.out.symm, HB.out⟩
    | false =>
    have HP := hide (show (codeB c.code && inB c.mod 1 20 && plB c.x c.y && itsOk c.changes) = true by unfold pcV at hP; simpa using hP)
    have HF : Hid (∀ W : World, Below w1.heap.size w1 W → (Blk W w.heap.size 32 (cC r) ∧ SlR W W.heap.size 6 r.a r.n (c.changes.flatMap cI) ∧ SlR W W.heap.size 1 r.a2 r.n2 (c.gone.flatMap cN)) ∧ Below w.heap.size w W) := hide fun W hW => ⟨⟨gC.below hW gC.lt, HS.out.1.to' (bthen hb1 hW), HS.out.2.to' (bthen hb1 hW)⟩, bthen (bthen HG.out.2 hb1) hW⟩
    clear hP hb1 gC
    go_wp2_with fail
    go_loopw [3] (fun i wr => ∃ k : Nat, k ≤ r.n2 ∧ i = .int .i64 k ∧ AscAt 0 99 (-1) c.gone k ∧ (∀ s ∈ c.changes, s.id ∉ c.gone.take k) ∧ Below w1.heap.size w1 wr) (fun i _ => r.n2 - (intOf i).toNat)
    case atStart => exact ⟨0, Nat.zero_le _, rfl, AscAt.start _ _ _ _, by simp, Below.refl _ _⟩
    case round =>
      obtain ⟨k, hk, rfl, ha, hd, hb⟩ := hrel
      obtain ⟨wo, rfl⟩ : ∃ W : World, W = wr := ⟨_, rfl⟩
      obtain ⟨⟨gC, hr, hs⟩, hbw⟩ := HF.out wo hb
      obtain ⟨x0, x1, x2, x3, x4, x5⟩ := gC.allC
      have lC := gC.lt
      by_cases hlt : k < r.n2
      · have hkl : k < c.gone.length := by rw [HL.out.2]; exact hlt
        obtain ⟨b, off, hAe, hbb, z0⟩ := hs.atN (Below.refl _ _) hkl
        obtain ⟨pv, hpv⟩ : ∃ pv : Int, pv = if h : 0 < k then c.gone[k - 1] else 0 := ⟨_, rfl⟩
        have HV1 : Hid (gnV c.gone[k] k pv = true → cpOk c = false) := hide fun h => by
          have : ascB 0 99 (-1) c.gone = false := by
            unfold gnV at h
            simp only [Bool.or_eq_true, Bool.and_eq_true, decide_eq_true_eq] at h
            rcases h with (h | h) | ⟨h1, h2⟩
            · exact ha.out hkl (by simp [inB]; omega)
            · exact ha.out hkl (by simp [inB]; omega)
            · rw [hpv, dif_pos h1] at h2
              exact ha.low hkl h1 h2
          unfold cpOk
          rw [this]; simp
        have HV0 : Hid (gnV c.gone[k] k pv = false → AscAt 0 99 (-1) c.gone (k + 1)) := hide fun h => by
          unfold gnV at h
          simp only [Bool.or_eq_false_iff, Bool.and_eq_false_iff, decide_eq_false_iff_not] at h
          obtain ⟨⟨h1, h2⟩, h3⟩ := h
          refine ha.next hkl (by simp [inB]; omega) (by omega) (fun h0 => ?_)
          rcases h3 with h3 | h3
          · exact absurd h0 h3
          · rw [hpv, dif_pos h0] at h3
            omega
        have HPC : Hid (∀ (h : 0 < k) (x : BW wo), x.val.cell? ⟨b, off + (k - 1), none⟩ = some (.int .i64 pv)) := hide fun h x => by
          obtain ⟨b', o', ee, -, y⟩ := hs.atN x.ok (k := k - 1) (by omega)
          rw [hAe] at ee
          cases ee
          rw [hpv, dif_pos h]
          exact y
        have HIN : Hid (∀ s ∈ c.changes, s.id = c.gone[k] → cpOk c = false) := hide fun s hsm he => by
          have : (c.changes.any fun s => decide (s.id ∈ c.gone)) = true := List.any_eq_true.2 ⟨s, hsm, decide_eq_true (by rw [he]; exact List.getElem_mem hkl)⟩
          unfold cpOk
          rw [this]; simp
        have HND : Hid ((∀ s ∈ c.changes, s.id ≠ c.gone[k]) → ∀ s ∈ c.changes, s.id ∉ c.gone.take (k + 1)) := hide fun hh s hsm hm => by
          rw [List.take_succ_eq_append_getElem hkl, List.mem_append, List.mem_singleton] at hm
          rcases hm with hm | hm
          · exact hd s hsm hm
          · exact hh s hsm hm
        have fz : ∀ x : BW wo, x.val.cell? ⟨b, off + k, none⟩ = some (.int .i64 c.gone[k]) := fun x => (x.ok.cell (p := ⟨b, off + k, none⟩) hbb).trans z0
        have HGZ : Hid (∀ W : World, Below wo.heap.size wo W → W.cell? ⟨b, off + k, none⟩ = some (.int .i64 c.gone[k]) ∧ b < W.heap.size) := hide fun W hW => ⟨(hW.cell (p := ⟨b, off + k, none⟩) hbb).trans z0, Nat.lt_of_lt_of_le hbb hW.size⟩
        generalize c.gone[k] = g at z0 HV1 HV0 HIN HND fz HGZ
        have hAe' := HL.out
        have HAe := hide hAe
        have fC := fun (x : BW wo) => ((gC.below x.ok gC.lt).allC).2.2.2.2.2
        rw [hAe] at fC x5
        have hlt' : (k : Int) < (r.n2 : Int) := by omega
        have HBo := hide hb
        have hbb' : b < wo.heap.size := hbb
        clear hpv ha hd hr hs hAe hAe' hb
        go_upto_region 6 with (fail)
        go_cut [79] from 48 to 79 (fun u wx => u = .bool (gnV g k pv) ∧ Below wo.heap.size wo wx)
        case first =>
          by_cases h1 : g < 0
          · have H1 := hide h1
            have HX := hide (show gnV g k pv = true by unfold gnV; rw [decide_eq_true H1.out]; rfl)
            refine wp_region_bw wo (Below.refl _ _) (by kernel_rfl) (by kernel_rfl) ?_
            repeat (go_big_quiet_step (fail))
            refine wpQuiet_nil ?_
            intro w2 hb2
            (try go_wp2_with fail)
            go_meet
            exact ⟨congrArg Value.bool HX.out.symm, hb2⟩
          · by_cases h2 : 99 < g
            · have H2 := hide h2
              have HX := hide (show gnV g k pv = true by unfold gnV; rw [decide_eq_true H2.out]; simp)
              refine wp_region_bw wo (Below.refl _ _) (by kernel_rfl) (by kernel_rfl) ?_
              repeat (go_big_quiet_step (fail))
              refine wpQuiet_nil ?_
              intro w2 hb2
              (try go_wp2_with fail)
              go_meet
              exact ⟨congrArg Value.bool HX.out.symm, hb2⟩
            · have H1 := hide (And.intro h1 h2)
              by_cases h0 : 0 < k
              · have H0 := hide h0
                obtain ⟨k', hk'⟩ : ∃ k' : Nat, k = k' + 1 := ⟨k - 1, by omega⟩
                have hkk : (k : Int) - 1 = (k' : Int) := by omega
                have hk0 : (0 : Int) < (k : Int) := by omega
                have hkl' : (k' : Int) < (r.n2 : Int) := by omega
                have fp := HPC.out h0
                rw [show k - 1 = k' by omega] at fp
                have HK' := hide hk'
                clear hk'
                by_cases h3 : g ≤ pv
                · have H3 := hide h3
                  have HX := hide (show gnV g k pv = true by unfold gnV; rw [decide_eq_true H0.out, decide_eq_true H3.out]; simp)
                  refine wp_region_bw wo (Below.refl _ _) (by kernel_rfl) (by kernel_rfl) ?_
                  repeat (go_big_quiet_step (fail))
                  refine wpQuiet_nil ?_
                  intro w2 hb2
                  (try go_wp2_with fail)
                  go_meet
                  exact ⟨congrArg Value.bool HX.out.symm, hb2⟩
                · have H3 := hide h3
                  have HX := hide (show gnV g k pv = false by unfold gnV; rw [decide_eq_false H1.out.1, decide_eq_false H1.out.2, decide_eq_false H3.out]; simp)
                  refine wp_region_bw wo (Below.refl _ _) (by kernel_rfl) (by kernel_rfl) ?_
                  repeat (go_big_quiet_step (fail))
                  refine wpQuiet_nil ?_
                  intro w2 hb2
                  (try go_wp2_with fail)
                  go_meet
                  exact ⟨congrArg Value.bool HX.out.symm, hb2⟩
              · have H0 := hide h0
                have hk0 : ¬ (0 : Int) < (k : Int) := by omega
                have HX := hide (show gnV g k pv = false by unfold gnV; rw [decide_eq_false H1.out.1, decide_eq_false H1.out.2, decide_eq_false H0.out]; simp)
                refine wp_region_bw wo (Below.refl _ _) (by kernel_rfl) (by kernel_rfl) ?_
                repeat (go_big_quiet_step (fail))
                refine wpQuiet_nil ?_
                intro w2 hb2
                (try go_wp2_with fail)
                go_meet
                exact ⟨congrArg Value.bool HX.out.symm, hb2⟩
        case rest =>
          obtain ⟨w2, rfl⟩ : ∃ W : World, W = wc := ⟨_, rfl⟩
          obtain ⟨rfl, hb2⟩ := hcut
          have HB2 := hide (bthen HBo.out hb2)
          have HGz2 := hide (fun (W : World) (hW : Below w2.heap.size w2 W) => HGZ.out W (bthen hb2 hW))
          clear fz fC z0 hb2 gC x0 x1 x2 x3 x4 x5 lC
          cases hP : gnV g k pv with
          | true =>
            have HR := hide (HV1.out hP)
            have HW := hide (HF.out w2 HB2.out).2
            clear hP
            go_wp2_with fail
            go_ret
            exact ⟨ret_bool HR.out.symm, HW.out⟩
          | false =>
            have HA := hide (HV0.out hP)
            clear hP
            obtain ⟨⟨gC2, -, -⟩, -⟩ := HF.out w2 HB2.out
            obtain ⟨x0, x1, x2, x3, x4, x5⟩ := gC2.allC
            have lC := gC2.lt
            rw [HAe.out] at x5
            go_wp2_with fail
            go_loopw [4] (fun i wi => ∃ j : Nat, j ≤ r.n ∧ i = .int .i64 j ∧ (∀ s ∈ c.changes.take j, s.id ≠ g) ∧ Below w2.heap.size w2 wi) (fun i _ => r.n - (intOf i).toNat)
            case atStart => exact ⟨0, Nat.zero_le _, rfl, by simp, Below.refl _ _⟩
            case round =>
              obtain ⟨j, hj, rfl, hne, hbj⟩ := hrel
              obtain ⟨wj, rfl⟩ : ∃ W : World, W = wr := ⟨_, rfl⟩
              clear gC2 x0 x1 x2 x3 x4 x5 lC
              obtain ⟨⟨gC3, hr3, -⟩, -⟩ := HF.out wj (bthen HB2.out hbj)
              obtain ⟨x0, x1, x2, x3, x4, x5⟩ := gC3.allC
              have lC := gC3.lt
              by_cases hjl : j < r.n
              · have hjc : j < c.changes.length := by rw [HL.out.1]; exact hjl
                obtain ⟨b2, o2, hBe, hbb2, -⟩ := hr3.atI (Below.refl _ _) hjc
                have HBe := hide hBe
                have hr3' := hr3
                rw [hBe] at hr3'
                have fI := fun (x : BW wj) => (hr3'.bwI hjc x).1
                have fz := fun (x : BW wj) => (HGz2.out x.val (bthen hbj x.ok)).1
                have fC4 := fun (x : BW wj) => ((gC3.below x.ok gC3.lt).allC).2.2.2.2.1
                have fC5 := fun (x : BW wj) => ((gC3.below x.ok gC3.lt).allC).2.2.2.2.2
                have lb := (HGz2.out wj hbj).2
                rw [hBe] at fC4 x4
                rw [HAe.out] at fC5 x5
                have HM := hide (show c.changes[j] ∈ c.changes from List.getElem_mem hjc)
                have HT := hide (show c.changes[j].id ≠ g → ∀ s ∈ c.changes.take (j + 1), s.id ≠ g from fun h s hsm => by
                  rw [List.take_succ_eq_append_getElem hjc, List.mem_append, List.mem_singleton] at hsm
                  rcases hsm with hsm | rfl
                  · exact hne s hsm
                  · exact h)
                generalize hsj : c.changes[j] = s at fI HM HT
                have hjl' : (j : Int) < (r.n : Int) := by omega
                have HBj := hide hbj
                clear hne hr3 hr3' hBe hbj hsj gC3
                by_cases hid : s.id = g
                · have HR := hide (HIN.out s HM.out hid)
                  have hidb : (s.id == g) = true := by simpa using hid
                  have HID := hide hid
                  clear hid
                  go_wp2_with fail
                  refine wp_region_bw wj (Below.refl _ _) (by kernel_rfl) (by kernel_rfl) ?_
                  repeat (go_big_quiet_step (fail))
                  refine wpQuiet_nil ?_
                  intro w5 hb5
                  have HW := hide (HF.out w5 (bthen HB2.out (bthen HBj.out hb5))).2
                  clear hb5
                  go_wp2_with fail
                  go_ret
                  exact ⟨ret_bool HR.out.symm, HW.out⟩
                · have HR := hide (HT.out hid)
                  have hidb : (s.id == g) = false := by simpa using hid
                  have HID := hide hid
                  clear hid
                  go_wp2_with fail
                  refine wp_region_bw wj (Below.refl _ _) (by kernel_rfl) (by kernel_rfl) ?_
                  repeat (go_big_quiet_step (fail))
                  refine wpQuiet_nil ?_
                  intro w5 hb5
                  go_wp2_with fail
                  go_roundw
                  case rel => exact ⟨j + 1, by omega, by go_num, HR.out, bthen HBj.out hb5⟩
                  case measure => simp [intOf]; omega
              · have HR := hide (HND.out (by
                  have := hne
                  rwa [List.take_of_length_le (by rw [HL.out.1]; omega)] at this))
                have HBk := hide (bthen HB2.out hbj)
                clear hne hr3 gC3 hbj
                go_wp2_with fail
                go_roundw
                case rel => exact ⟨k + 1, by omega, by go_num, HA.out, HR.out, HBk.out⟩
                case measure => simp [intOf]; omega
      · have HR := hide (show cpOk c = true by
          have h1 := ha.done (by rw [HL.out.2]; omega)
          have h2 : (c.changes.any fun s => decide (s.id ∈ c.gone)) = false := by
            rw [List.any_eq_false]
            intro s hsm
            have := hd s hsm
            rw [List.take_of_length_le (by rw [HL.out.2]; omega)] at this
            simpa using this
          unfold cpOk
          rw [HP.out, h1, h2]
          rfl)
        have HW := hide hbw
        clear ha hd hr hs hb hbw
        go_wp2_with fail
        go_ret
        exact ⟨ret_bool HR.out.symm, HW.out⟩
end Go.Proofs.YtncdombfhcfobaaGreat
/- Contract: the reference's ValidCopy. -/
namespace Go.Proofs.YtncdombfhcfobaaGreat
open Go.RowKit Go.Shelf
/-- what find says, as a test -/
theorem find_neg {w : World} {rows : List MR} {ms : List Mo} (hm : Mods w rows ms) (n : Int) : (idxF (fun r : MR => decide (r.id = n)) rows 0 < 0) ↔ (findM ms n).isSome = false := by
  rcases idxF_cases (fun r : MR => decide (r.id = n)) rows 0 with ⟨h1, -, h3⟩ | ⟨j, hj, h1, -, h3, -⟩
  · rcases hm.find (n := n) with ⟨-, h⟩ | ⟨r, m2, h, -⟩
    · rw [h1, h]; simp
    · rw [show fndR rows n = none from h3] at h; cases h
  · rcases hm.find (n := n) with ⟨h, -⟩ | ⟨r, m2, -, h, -⟩
    · rw [show fndR rows n = some rows[j] from h3] at h; cases h
    · rw [h1, h]
      simp
set_option linter.unusedSimpArgs false in
set_option maxRecDepth 100000 in
set_option maxHeartbeats 4000000 in
theorem c_rValidCopy (A : Option Addr) (N cc : Nat) (rows : List MR) (ms : List Mo) (r : CR) (c : Cp) (w : World) (hN : N ≤ 9223372036854775807) (hr : SlR w w.heap.size 2 A N (rows.flatMap cM)) (hm : Mods w rows ms) (h : CpR w r c) :
    Calls Tryz.prog 14 #[.slice A N cc, crV r] w fun e w' => e = .returned (.bool (validCopyB ms c)) ∧ Below w.heap.size w w' := by
  have hb0 := balloc (Below.refl w.heap.size w) (.cells #[.int .i64 r.code, .int .i64 r.mod, .int .i64 r.x, .int .i64 r.y, .slice r.a r.n r.c, .slice r.a2 r.n2 r.c2] 32)
  have gC : Blk (w.alloc (.cells #[.int .i64 r.code, .int .i64 r.mod, .int .i64 r.x, .int .i64 r.y, .slice r.a r.n r.c, .slice r.a2 r.n2 r.c2] 32)) w.heap.size 32 (cC r) := Blk.new w 32 (cC r)
  have h0 := h.to hb0
  have hr0 := hr.to' hb0
  have hm0 := hm.to hb0
  have HMd := hide (h.1.2.1)
  have HF : Hid (∀ W : World, Below (w.alloc (.cells #[.int .i64 r.code, .int .i64 r.mod, .int .i64 r.x, .int .i64 r.y, .slice r.a r.n r.c, .slice r.a2 r.n2 r.c2] 32)).heap.size (w.alloc (.cells #[.int .i64 r.code, .int .i64 r.mod, .int .i64 r.x, .int .i64 r.y, .slice r.a r.n r.c, .slice r.a2 r.n2 r.c2] 32)) W →
      (Blk W w.heap.size 32 (cC r) ∧ SlR W W.heap.size 2 A N (rows.flatMap cM) ∧ Mods W rows ms ∧ CpR W r c) ∧ Below w.heap.size w W) := hide fun W hW => ⟨⟨gC.below hW gC.lt, hr0.to' hW, hm0.to hW, h0.to hW⟩, bthen hb0 hW⟩
  clear hb0 gC h0 hr0 hm0 hr hm h
  unfold crV
  go_enter Tryz.func14, Tryz.ntmps14
  go_upto_region 1 with (fail)
  generalize w.alloc (.cells #[.int .i64 r.code, .int .i64 r.mod, .int .i64 r.x, .int .i64 r.y, .slice r.a r.n r.c, .slice r.a2 r.n2 r.c2] 32) = w0 at *
  obtain ⟨⟨gC, sl, sm, sc⟩, hbw⟩ := HF.out w0 (Below.refl _ _)
  obtain ⟨x0, x1, x2, x3, x4, x5⟩ := gC.allC
  have lC := gC.lt
  have hk1 := c_rValid A N cc rows ms w0 hN sl sm
  clear gC sl sm sc hbw
  go_wp2_with fail
  refine hk1.mono ?_
  clear hk1
  rintro e w1 ⟨rfl, hb1⟩
  cases hv : validB ms with
  | false =>
    have HR := hide (show validCopyB ms c = false by unfold validCopyB; rw [hv]; rfl)
    have HW := hide (HF.out w1 hb1).2
    clear hv hb1
    go_wp2_with fail
    go_ret
    exact ⟨ret_bool HR.out.symm, HW.out⟩
  | true =>
  have HV := hide hv
  clear hv x0 x1 x2 x3 x4 x5 lC
  obtain ⟨⟨gC, sl, sm, sc⟩, hbw⟩ := HF.out w1 hb1
  obtain ⟨x0, x1, x2, x3, x4, x5⟩ := gC.allC
  have lC := gC.lt
  have hk1 := c_rProperCopy r c w1 sc
  have HB1 := hide hb1
  clear gC sl sm sc hbw hb1
  go_wp2_with fail
  refine hk1.mono ?_
  clear hk1
  rintro e w2 ⟨rfl, hb2⟩
  have hb02 := bthen HB1.out hb2
  cases hc : cpOk c with
  | false =>
    have HR := hide (show validCopyB ms c = false by unfold validCopyB; rw [hc, Bool.and_false]; rfl)
    have HW := hide (HF.out w2 hb02).2
    clear hc hb2 hb02
    go_wp2_with fail
    go_ret
    exact ⟨ret_bool HR.out.symm, HW.out⟩
  | true =>
  have HC := hide hc
  clear hc x0 x1 x2 x3 x4 x5 lC
  obtain ⟨⟨gC, sl, sm, sc⟩, hbw⟩ := HF.out w2 hb02
  obtain ⟨x0, x1, x2, x3, x4, x5⟩ := gC.allC
  have lC := gC.lt
  have hk1 := c_rFind A N cc rows r.mod w2 hN sl
  have HFn := hide (show (idxF (fun q : MR => decide (q.id = r.mod)) rows 0 < 0) ↔ (findM ms c.mod).isSome = false by rw [← HMd.out]; exact find_neg sm r.mod)
  have HB2 := hide hb02
  generalize idxF (fun q : MR => decide (q.id = r.mod)) rows 0 = fz at *
  clear gC sl sm sc hbw hb02 hb2
  by_cases hz : fz < 0
  · have HR := hide (show validCopyB ms c = false by unfold validCopyB; rw [HFn.out.1 hz]; simp)
    have HW := hide (HF.out w2 HB2.out).2
    go_wp2_with fail
    refine hk1.mono ?_
    clear hk1
    rintro e w3 ⟨rfl, rfl⟩
    go_wp2_with fail
    go_ret
    exact ⟨ret_bool HR.out.symm, HW.out⟩
  · have HFs := hide (show (findM ms c.mod).isSome = true by
      cases h : (findM ms c.mod).isSome with
      | true => rfl
      | false => exact absurd (HFn.out.2 h) hz)
    go_wp2_with fail
    refine hk1.mono ?_
    clear hk1
    rintro e w3 ⟨rfl, rfl⟩
    clear HFn
    go_wp2_with fail
    go_loopw [5] (fun i wr => ∃ k : Nat, k ≤ r.n ∧ i = .int .i64 k ∧ (c.changes.take k).all (inItem ms) = true ∧ Below w2.heap.size w2 wr) (fun i _ => r.n - (intOf i).toNat)
    case atStart => exact ⟨0, Nat.zero_le _, rfl, rfl, Below.refl _ _⟩
    case round =>
      obtain ⟨k, hk, rfl, hal, hb⟩ := hrel
      clear x0 x1 x2 x3 x4 x5 lC
      obtain ⟨⟨gC, sl, sm, sc⟩, hbw⟩ := HF.out wr (bthen HB2.out hb)
      obtain ⟨x0, x1, x2, x3, x4, x5⟩ := gC.allC
      have lC := gC.lt
      have hrl := sc.2.1.2.2.lenI
      have hnb : r.n ≤ 9223372036854775807 := by have := sc.2.1; omega
      by_cases hlt : k < r.n
      · have hkc : k < c.changes.length := by omega
        obtain ⟨b, off, hAe, hbb, y0, y1, y2, y3, y4, y5⟩ := sc.2.1.2.2.atI (Below.refl _ _) hkc
        have HG := hide (show inItem ms c.changes[k] = true → (c.changes.take (k + 1)).all (inItem ms) = true from fun h => by
          rw [List.take_succ_eq_append_getElem hkc, List.all_append, hal]
          simp [h])
        have HBd := hide (show inItem ms c.changes[k] = false → validCopyB ms c = false from fun h => by
          have : knownB ms c.changes = false := by
            unfold knownB
            exact List.all_eq_false.2 ⟨c.changes[k], List.getElem_mem hkc, by rw [h]; simp⟩
          unfold validCopyB
          rw [this]; simp)
        rw [hAe] at x4
        have HAe := hide hAe
        generalize c.changes[k] = s at y0 y1 y2 y3 y4 y5 HG HBd
        have hlt' : (k : Int) < (r.n : Int) := by omega
        by_cases hk2 : s.kind = 2
        · have hkb : (s.kind == 2) = true := by simpa using hk2
          have hk1 := c_rFind A N cc rows s.mod wr hN sl
          have HFn := hide (find_neg sm s.mod)
          generalize idxF (fun q : MR => decide (q.id = s.mod)) rows 0 = fy at *
          have HBR := hide (And.intro hb hbw)
          have HK2 := hide hk2
          clear gC sl sm sc hal hAe hrl hb hbw hk2
          by_cases hy : fy < 0
          · have HR := hide (HBd.out (by unfold inItem; rw [HFn.out.1 hy, HK2.out]; rfl))
            go_wp2_with fail
            refine hk1.mono ?_
            clear hk1
            rintro e w3 ⟨rfl, rfl⟩
            go_wp2_with fail
            go_ret
            exact ⟨ret_bool HR.out.symm, HBR.out.2⟩
          · have HR := hide (HG.out (by
              unfold inItem
              cases h : (findM ms s.mod).isSome with
              | true => simp
              | false => exact absurd (HFn.out.2 h) hy))
            go_wp2_with fail
            refine hk1.mono ?_
            clear hk1
            rintro e w3 ⟨rfl, rfl⟩
            go_wp2_with fail
            go_roundw
            case rel => exact ⟨k + 1, by omega, by go_num, HR.out, HBR.out.1⟩
            case measure => simp [intOf]; omega
        · have hkb : (s.kind == 2) = false := by simpa using hk2
          have HR := hide (HG.out (by unfold inItem; rw [decide_eq_false hk2]; rfl))
          have HK2 := hide hk2
          have HBR := hide hb
          clear gC sl sm sc hal hAe hrl hb hbw hk2
          go_wp2_with fail
          go_roundw
          case rel => exact ⟨k + 1, by omega, by go_num, HR.out, HBR.out⟩
          case measure => simp [intOf]; omega
      · have HR := hide (show validCopyB ms c = true by
          have : knownB ms c.changes = true := by
            have h := hal
            rwa [List.take_of_length_le (by omega)] at h
          unfold validCopyB
          rw [HV.out, HC.out, HFs.out, this]
          rfl)
        have HW := hide hbw
        clear gC sl sm sc hal hrl hb hbw
        go_wp2_with fail
        go_ret
        exact ⟨ret_bool HR.out.symm, HW.out⟩
end Go.Proofs.YtncdombfhcfobaaGreat
/- Contract: the reference's Items; its answers and those of its Differ are the package's own. -/
namespace Go.Proofs.YtncdombfhcfobaaGreat
open Go.RowKit Go.Shelf
/-! Differ -/
theorem dfF_id {a b : List It} (n : Nat) (x : It) (h : dfF a b n = some x) : x.id = n := by
  unfold dfF at h
  split at h
  · rename_i hc
    injection h with h
    simp only [Bool.and_eq_true] at hc
    unfold atI' at h
    cases hg : getI b n with
    | none => rw [hg] at hc; cases hc.1
    | some y => rw [hg] at h; simp only [Option.getD_some] at h; rw [← h]; exact getI_id hg
  · cases h
theorem dif_chg {a b : List It} (ha : itsOk a = true) (hb : itsOk b = true) : colI (dfF a b) 100 = chgL a b := by
  refine asc_sameI (colI_asc dfF_id 100) (itsOk_parts (chg_nd hb)).2.1 (fun x => ?_)
  rw [colI_mem dfF_id]
  unfold chgL
  rw [List.mem_filter]
  have hbn := itsOk_nd hb
  constructor
  · rintro ⟨m, h1, h2⟩
    have hid := dfF_id m x h2
    unfold dfF at h2
    split at h2
    · rename_i hc
      injection h2 with h2
      simp only [Bool.and_eq_true] at hc
      cases hg : getI b m with
      | none => rw [hg] at hc; cases hc.1
      | some y =>
        have hy : y = x := by unfold atI' at h2; rw [hg] at h2; exact h2
        subst hy
        refine ⟨(getI_some hg).1, ?_⟩
        unfold changedB
        rw [getI_byL (itsOk_nd ha), hid]
        have h3 := hc.2
        unfold atI' at h3
        rw [hg] at h3
        cases hga : getI a m with
        | none => simp
        | some z => rw [hga] at h3; simp at h3; simp [h3]
    · cases h2
  · rintro ⟨h1, h2⟩
    have hr := (itsOk_parts hb).2.2.1 x h1
    refine ⟨x.id.toNat, by omega, ?_⟩
    have hc : ((x.id.toNat : Nat) : Int) = x.id := by omega
    unfold dfF atI'
    rw [hc, (getI_mem hbn).1 h1]
    unfold changedB at h2
    rw [getI_byL (itsOk_nd ha)] at h2
    cases hga : getI a x.id with
    | none => simp
    | some z => rw [hga] at h2; simp at h2; simp [h2]
theorem dif_gone {a b : List It} (ha : itsOk a = true) (hb : itsOk b = true) : colN (dgP a b) 100 = goneL a b := by
  refine asc_same (colN_asc 100) (ascB_parts _ _ (gone_asc ha)).1 (fun n => ?_)
  rw [colN_mem, gone_iff (itsOk_nd hb)]
  constructor
  · rintro ⟨m, h1, h2, rfl⟩
    unfold dgP at h2
    simp only [Bool.and_eq_true, Bool.not_eq_true'] at h2
    refine ⟨?_, by cases h : getI b m with | none => rfl | some y => rw [h] at h2; cases h2.2⟩
    cases h : getI a m with
    | none => rw [h] at h2; cases h2.1
    | some y => exact List.mem_map.2 ⟨y, (getI_some h).1, (getI_some h).2⟩
  · rintro ⟨h1, h2⟩
    obtain ⟨y, hy, rfl⟩ := List.mem_map.1 h1
    have hr := (itsOk_parts ha).2.2.1 y hy
    refine ⟨y.id.toNat, by omega, ?_, by omega⟩
    have hc : ((y.id.toNat : Nat) : Int) = y.id := by omega
    unfold dgP
    rw [hc, (getI_mem (itsOk_nd ha)).1 hy, h2]
    rfl
/-! Items -/
def itF (ms : List Mo) (c : Cp) (n : Nat) : Option It := if (getI c.changes n).isSome = true then some (atI' c.changes n) else if ((getI (itemsOf ms c.mod) n).isSome && !decide ((n : Int) ∈ c.gone)) = true then some (atI' (itemsOf ms c.mod) n) else none
theorem at_some {l : List It} {n : Int} (h : (getI l n).isSome = true) : getI l n = some (atI' l n) := by
  unfold atI'
  cases hg : getI l n with
  | none => rw [hg] at h; cases h
  | some y => rfl
theorem itF_made {ms : List Mo} {c : Cp} (h : validCopyB ms c = true) (n : Nat) : itF ms c n = getI (madeM ms c) n := by
  obtain ⟨hv, hc, -, -⟩ := vc_parts h
  rw [getI_made (itsOk_nd (cpOk_parts hc).2.2.2.1) (itsOk_nd (itemsOf_ok hv c.mod))]
  unfold itF
  cases hg : getI c.changes n with
  | some x =>
    unfold atI'
    rw [hg]
    rfl
  | none =>
    dsimp only
    by_cases hm : (n : Int) ∈ c.gone
    · rw [if_pos hm]; simp [hm]
    · rw [if_neg hm]
      cases hy : getI (itemsOf ms c.mod) n with
      | some y => unfold atI'; rw [hy]; simp [hm]
      | none => simp
theorem itF_id {ms : List Mo} {c : Cp} (h : validCopyB ms c = true) (n : Nat) (x : It) (hx : itF ms c n = some x) : x.id = n := by
  rw [itF_made h] at hx
  exact getI_id hx
theorem items_made {ms : List Mo} {c : Cp} {s : List It} (h : validCopyB ms c = true) (hs : SortOf (madeM ms c) s) : colI (itF ms c) 100 = s := by
  refine asc_sameI (colI_asc (itF_id h) 100) (hs.lt (madeM_nd _ _)) (fun x => ?_)
  rw [colI_mem (itF_id h), hs.1.mem_iff, getI_mem (madeM_nd _ _)]
  constructor
  · rintro ⟨m, -, h2⟩
    rw [itF_id h m x h2, ← itF_made h]
    exact h2
  · intro hx
    have hr : 0 ≤ x.id ∧ x.id ≤ 99 := by
      obtain ⟨hv, hc, -, -⟩ := vc_parts h
      rcases mem_madeM (getI_some hx).1 with hm | hm
      · exact (itsOk_parts (cpOk_parts hc).2.2.2.1).2.2.1 x hm
      · exact (itsOk_parts (itemsOf_ok hv c.mod)).2.2.1 x hm
    refine ⟨x.id.toNat, by omega, ?_⟩
    rw [itF_made h, show ((x.id.toNat : Nat) : Int) = x.id by omega]
    exact hx
def RItemsPost (ms : List Mo) (c : Cp) (w : World) (e : Ending) (w' : World) : Prop :=
  Below w.heap.size w w' ∧ (validCopyB ms c = false ∧ e = .returned (.tuple #[.slice none 0 0, .int .i64 140]) ∨
    validCopyB ms c = true ∧ ∃ v, e = .returned (.tuple #[v, .int .i64 0]) ∧ w'.ownsRow w.heap.size 27 6 v (colI (itF ms c) 100).length ((colI (itF ms c) 100).flatMap cI))
set_option linter.unusedSimpArgs false in
set_option maxRecDepth 100000 in
set_option maxHeartbeats 4000000 in
theorem c_rItems (A : Option Addr) (N cc : Nat) (rows : List MR) (ms : List Mo) (r : CR) (c : Cp) (w : World) (hN : N ≤ 9223372036854775807) (hr : SlR w w.heap.size 2 A N (rows.flatMap cM)) (hm : Mods w rows ms) (h : CpR w r c) :
    Calls Tryz.prog 20 #[.slice A N cc, crV r] w (RItemsPost ms c w) := by
  obtain ⟨i0, hi, hz0, hz1, hz2⟩ := info_parts Tryz.infoItem
  have hb0 := balloc (Below.refl w.heap.size w) (.cells #[.int .i64 r.code, .int .i64 r.mod, .int .i64 r.x, .int .i64 r.y, .slice r.a r.n r.c, .slice r.a2 r.n2 r.c2] 32)
  have gC : Blk (w.alloc (.cells #[.int .i64 r.code, .int .i64 r.mod, .int .i64 r.x, .int .i64 r.y, .slice r.a r.n r.c, .slice r.a2 r.n2 r.c2] 32)) w.heap.size 32 (cC r) := Blk.new w 32 (cC r)
  have h0 := h.to hb0
  have hr0 := hr.to' hb0
  have hm0 := hm.to hb0
  have HMd := hide (h.1.2.1)
  have HF : Hid (∀ W : World, Below (w.alloc (.cells #[.int .i64 r.code, .int .i64 r.mod, .int .i64 r.x, .int .i64 r.y, .slice r.a r.n r.c, .slice r.a2 r.n2 r.c2] 32)).heap.size (w.alloc (.cells #[.int .i64 r.code, .int .i64 r.mod, .int .i64 r.x, .int .i64 r.y, .slice r.a r.n r.c, .slice r.a2 r.n2 r.c2] 32)) W →
      (Blk W w.heap.size 32 (cC r) ∧ SlR W W.heap.size 2 A N (rows.flatMap cM) ∧ Mods W rows ms ∧ CpR W r c) ∧ Below w.heap.size w W) := hide fun W hW => ⟨⟨gC.below hW gC.lt, hr0.to' hW, hm0.to hW, h0.to hW⟩, bthen hb0 hW⟩
  clear hb0 gC h0 hr0 hm0 hr hm h
  unfold crV
  go_enter Tryz.func20, Tryz.ntmps20
  go_upto_region 1 with (fail)
  generalize w.alloc (.cells #[.int .i64 r.code, .int .i64 r.mod, .int .i64 r.x, .int .i64 r.y, .slice r.a r.n r.c, .slice r.a2 r.n2 r.c2] 32) = w0 at *
  obtain ⟨⟨gC, sl, sm, sc⟩, hbw⟩ := HF.out w0 (Below.refl _ _)
  obtain ⟨x0, x1, x2, x3, x4, x5⟩ := gC.allC
  have lC := gC.lt
  have hk1 := c_rValidCopy A N cc rows ms r c w0 hN sl sm sc
  clear gC sl sm sc hbw
  go_wp2_with fail
  refine hk1.mono ?_
  clear hk1
  rintro e w1 ⟨rfl, hb1⟩
  cases hv : validCopyB ms c with
  | false =>
    have HR := hide hv
    have HW := hide (HF.out w1 hb1).2
    clear hv hb1
    go_wp2_with fail
    go_ret2
    exact ⟨HW.out, .inl ⟨HR.out, rfl⟩⟩
  | true =>
  have HV := hide hv
  clear x0 x1 x2 x3 x4 x5 lC
  obtain ⟨⟨gC, sl, sm, sc⟩, hbw⟩ := HF.out w1 hb1
  have HFn := hide (show (findM ms c.mod).isSome = true from (vc_parts hv).2.2.1)
  have hidx : ∃ (j : Nat) (hj : j < rows.length), idxF (fun q : MR => decide (q.id = r.mod)) rows 0 = (j : Int) ∧ rows[j].n ≤ rows[j].c ∧ rows[j].c ≤ 9223372036854775807 ∧ SlR w1 w1.heap.size 6 rows[j].a rows[j].n ((itemsOf ms c.mod).flatMap cI) := by
    rcases idxF_cases (fun q : MR => decide (q.id = r.mod)) rows 0 with ⟨h1, -, h3⟩ | ⟨j, hj, h1, -, h3, -⟩
    · exfalso
      rcases sm.find (n := r.mod) with ⟨-, h⟩ | ⟨q, m2, h, -⟩
      · have := HFn.out
        rw [← HMd.out, h] at this
        cases this
      · rw [show fndR rows r.mod = none from h3] at h; cases h
    · rcases sm.find (n := r.mod) with ⟨h, -⟩ | ⟨q, m2, hq, hm2, -, -, p1, p2, p3⟩
      · rw [show fndR rows r.mod = some rows[j] from h3] at h; cases h
      · rw [show fndR rows r.mod = some rows[j] from h3] at hq
        injection hq with hq
        subst hq
        refine ⟨j, hj, by rw [h1, Nat.zero_add], p1, p2, ?_⟩
        rw [show itemsOf ms c.mod = m2.items by unfold itemsOf; rw [← HMd.out, hm2]]
        exact p3
  obtain ⟨jr, hjr, hjx, hjn, hjc, hsi⟩ := hidx
  obtain ⟨b, off, hAe, hbb, z0, z1⟩ := sl.atM (Below.refl _ _) hjr
  have hlr := sl.lenm
  have hjN : jr < N := by omega
  have hjN' : (jr : Int) < (N : Int) := by omega
  subst hAe
  have hfd := fun (W : World) (hW : Below w1.heap.size w1 W) => c_rFind (some ⟨b, off, none⟩) N cc rows r.mod W hN (sl.to' hW)
  rw [hjx] at hfd
  generalize rows[jr] = q at *
  obtain ⟨qi, qa, qn, qc⟩ := q
  simp only at hjn hjc hsi z0 z1
  have hqn : qn ≤ 9223372036854775807 := by omega
  have hrn : r.n ≤ 9223372036854775807 := by have := sc.2.1; omega
  have hrn2 : r.n2 ≤ 9223372036854775807 := by have := sc.2.2; omega
  have HQ : Hid (∀ W : World, Below w1.heap.size w1 W → (W.cell? ⟨b, off + jr * 2, none⟩ = some (.int .i64 qi) ∧ W.cell? ⟨b, off + jr * 2 + 1, none⟩ = some (.slice qa qn qc) ∧ b < W.heap.size) ∧ SlR W W.heap.size 6 qa qn ((itemsOf ms c.mod).flatMap cI)) := hide fun W hW =>
    ⟨⟨(hW.cell (p := ⟨b, _, none⟩) hbb).trans z0, (hW.cell (p := ⟨b, _, none⟩) hbb).trans z1, Nat.lt_of_lt_of_le hbb hW.size⟩, hsi.to' hW⟩
  have HFd := hide hfd
  have HB1 := hide hb1
  have HW1 := hide (show w.heap.size ≤ w1.heap.size from hbw.size)
  clear hv gC sl sm sc hbw hb1 hfd hsi z0 z1 hlr hjx
  go_wp2_with fail
  go_loopw [6, 7] (fun v jv wr => ∃ k : Nat, k ≤ 100 ∧ jv = .int .i64 k ∧ wr.ownsRow w1.heap.size 27 6 v (colI (itF ms c) k).length ((colI (itF ms c) k).flatMap cI) ∧ Below w1.heap.size w1 wr) (fun _ jv _ => 100 - (intOf jv).toNat)
  case atStart => exact ⟨0, by omega, rfl, World.ownsRow_nil _ _ _ _, Below.refl _ _⟩
  case round =>
    obtain ⟨k, hk, rfl, ho, hbr⟩ := hrel
    by_cases hlt : k < 100
    · obtain ⟨⟨gC, -, -, sc⟩, -⟩ := HF.out wr (bthen HB1.out hbr)
      obtain ⟨x0, x1, x2, x3, x4, x5⟩ := gC.allC
      have lC := gC.lt
      have hi1 := c_rItemY r.a r.n r.c c.changes k wr hrn sc.2.1.2.2
      have HO := hide (And.intro ho hbr)
      clear gC sc ho hbr
      go_wp2_with fail
      refine hi1.mono ?_
      clear hi1 x0 x1 x2 x3 x4 x5 lC
      rintro e w3 ⟨rfl, hb3⟩
      have HFd2 : Hid (itF ms c k = if (getI c.changes k).isSome = true then some (atI' c.changes k) else if ((getI (itemsOf ms c.mod) k).isSome && !decide ((k : Int) ∈ c.gone)) = true then some (atI' (itemsOf ms c.mod) k) else none) := hide rfl
      generalize atI' c.changes (k : Int) = X at *
      generalize (getI c.changes (k : Int)).isSome = bX at *
      have gX : Blk (w3.alloc (.cells #[.int .i64 X.id, .int .i64 X.kind, .int .i64 X.x, .int .i64 X.y, .string X.text, .int .i64 X.mod] 27)) w3.heap.size 27 (cI X) := Blk.new w3 27 (cI X)
      have hb34 := balloc (Below.refl w3.heap.size w3) (.cells #[.int .i64 X.id, .int .i64 X.kind, .int .i64 X.x, .int .i64 X.y, .string X.text, .int .i64 X.mod] 27)
      have HB4 := hide (And.intro (own_bel HO.out.1 (bthen hb3 hb34)) (bthen HO.out.2 (bthen hb3 hb34)))
      clear hb3 hb34
      go_upto_region 8 with (fail)
      generalize w3.alloc (.cells #[.int .i64 X.id, .int .i64 X.kind, .int .i64 X.x, .int .i64 X.y, .string X.text, .int .i64 X.mod] 27) = w4 at *
      generalize w3.heap.size = bx at *
      have HX := hide gX
      clear gX
      obtain ⟨⟨gC, -, -, sc⟩, -⟩ := HF.out w4 (bthen HB1.out HB4.out.2)
      obtain ⟨x0, x1, x2, x3, x4, x5⟩ := gC.allC
      have lC := gC.lt
      obtain ⟨⟨z0, z1, lb⟩, hsi⟩ := HQ.out w4 HB4.out.2
      have hfd := HFd.out w4 HB4.out.2
      have hi2 := c_rItemY qa qn qc (itemsOf ms c.mod) k w4 hqn hsi
      clear gC sc hsi
      go_wp2_with fail
      refine hfd.mono ?_
      clear hfd
      rintro e w4' ⟨rfl, rfl⟩
      go_wp2_with fail
      refine hi2.mono ?_
      clear hi2 x0 x1 x2 x3 x4 x5 lC z0 z1 lb
      rintro e w5 ⟨rfl, hb5⟩
      generalize atI' (itemsOf ms c.mod) (k : Int) = Y at *
      generalize (getI (itemsOf ms c.mod) (k : Int)).isSome = bY at *
      have gY : Blk (w5.alloc (.cells #[.int .i64 Y.id, .int .i64 Y.kind, .int .i64 Y.x, .int .i64 Y.y, .string Y.text, .int .i64 Y.mod] 27)) w5.heap.size 27 (cI Y) := Blk.new w5 27 (cI Y)
      have gX := (HX.out.below hb5 HX.out.lt).alloc (.cells #[.int .i64 Y.id, .int .i64 Y.kind, .int .i64 Y.x, .int .i64 Y.y, .string Y.text, .int .i64 Y.mod] 27)
      have hb56 := balloc (Below.refl w5.heap.size w5) (.cells #[.int .i64 Y.id, .int .i64 Y.kind, .int .i64 Y.x, .int .i64 Y.y, .string Y.text, .int .i64 Y.mod] 27)
      have HB6 := hide (And.intro (own_bel HB4.out.1 (bthen hb5 hb56)) (bthen HB4.out.2 (bthen hb5 hb56)))
      clear hb5 hb56
      go_upto_region 9 with (fail)
      generalize w5.alloc (.cells #[.int .i64 Y.id, .int .i64 Y.kind, .int .i64 Y.x, .int .i64 Y.y, .string Y.text, .int .i64 Y.mod] 27) = w6 at *
      generalize w5.heap.size = by' at *
      obtain ⟨p0, p1, p2, p3, p4, p5⟩ := gX.allI
      obtain ⟨y0, y1, y2, y3, y4, y5⟩ := gY.allI
      have lx := gX.lt
      have ly := gY.lt
      have HY := hide gY
      have HS6 := hide (show w1.heap.size ≤ w6.heap.size from HB6.out.2.size)
      have hl1 := colI_len (itF ms c) k
      clear gX gY
      cases bX
      · cases bY
        · have HF1 := hide (colI_none (f := itF ms c) (n := k) (by rw [HFd2.out]; simp))
          go_wp2_with fail
          go_roundw
          case rel => exact ⟨k + 1, by omega, by go_num, by rw [HF1.out]; exact HB6.out.1, HB6.out.2⟩
          case measure => simp [intOf]; omega
        · obtain ⟨⟨gC, -, -, sc⟩, -⟩ := HF.out w6 (bthen HB1.out HB6.out.2)
          obtain ⟨x0, x1, x2, x3, x4, x5⟩ := gC.allC
          have lC := gC.lt
          have hh := c_rHas r.a2 r.n2 r.c2 c.gone k w6 hrn2 sc.2.2.2.2
          clear gC sc
          generalize decide ((k : Int) ∈ c.gone) = G at *
          go_wp2_with fail
          refine hh.mono ?_
          clear hh
          rintro e w6' ⟨rfl, rfl⟩
          cases G
          · have HF1 := hide (colI_some (f := itF ms c) (n := k) (x := Y) (by rw [HFd2.out]; simp))
            generalize colI (itF ms c) k = P at *
            have gA : SlR (w6.alloc (.cells (cI Y).toArray 27)) _ 6 (some ⟨w6.heap.size, 0, none⟩) 1 (cI Y) := slr_new _ _ rfl rfl
            go_wp2_with (at_builtin; refine wpList_append_sl (size := 6) rfl _ _ 29 rfl w1.heap.size 27 i0 zV 56 Tryz.underlying29 hi hz0 hz1 hz2 rfl (by decide) _ P.length (P.flatMap cI) rfl (HB6.out.1.alloc _) 1 1 (cI Y) rfl gA (Below.refl _ _) (fun u hu => oneI [Y] u (by simpa using hu)) (by unfold maxLen; omega) (by omega) (by have := HS6.out; simp; omega) ?_; intro v6 w7 ho6 hg6 hor6)
            go_roundw
            case rel =>
              refine ⟨k + 1, by omega, by go_num, ?_, (balloc HB6.out.2 _).grown hg6 (by have := HS6.out; simp; omega) (fun g e => (own_lt HB6.out.1 g e).1)⟩
              rw [HF1.out, List.length_append, flatI_snoc]
              exact ho6
            case measure => simp [intOf]; omega
          · have HF1 := hide (colI_none (f := itF ms c) (n := k) (by rw [HFd2.out]; simp))
            go_wp2_with fail
            go_roundw
            case rel => exact ⟨k + 1, by omega, by go_num, by rw [HF1.out]; exact HB6.out.1, HB6.out.2⟩
            case measure => simp [intOf]; omega
      · have HF1 := hide (colI_some (f := itF ms c) (n := k) (x := X) (by rw [HFd2.out]; simp))
        generalize colI (itF ms c) k = P at *
        have gA : SlR (w6.alloc (.cells (cI X).toArray 27)) _ 6 (some ⟨w6.heap.size, 0, none⟩) 1 (cI X) := slr_new _ _ rfl rfl
        go_wp2_with (at_builtin; refine wpList_append_sl (size := 6) rfl _ _ 29 rfl w1.heap.size 27 i0 zV 56 Tryz.underlying29 hi hz0 hz1 hz2 rfl (by decide) _ P.length (P.flatMap cI) rfl (HB6.out.1.alloc _) 1 1 (cI X) rfl gA (Below.refl _ _) (fun u hu => oneI [X] u (by simpa using hu)) (by unfold maxLen; omega) (by omega) (by have := HS6.out; simp; omega) ?_; intro v6 w7 ho6 hg6 hor6)
        go_roundw
        case rel =>
          refine ⟨k + 1, by omega, by go_num, ?_, (balloc HB6.out.2 _).grown hg6 (by have := HS6.out; simp; omega) (fun g e => (own_lt HB6.out.1 g e).1)⟩
          rw [HF1.out, List.length_append, flatI_snoc]
          exact ho6
        case measure => simp [intOf]; omega
    · obtain rfl : k = 100 := by omega
      have HO := hide (own_base ho HW1.out)
      have HW := hide (HF.out wr (bthen HB1.out hbr)).2
      clear ho hbr
      go_wp2_with fail
      go_ret2
      exact ⟨HW.out, .inr ⟨HV.out, _, rfl, HO.out⟩⟩
end Go.Proofs.YtncdombfhcfobaaGreat
