/- Contracts of the reference's small functions: place, find, has, ProperItems, Proper. -/
import Derived.Test.YtncdombfhcfobaaGreatM40
import Derived.Deep.DeepCutAuto
namespace Go.Proofs.YtncdombfhcfobaaGreat
open Go.RowKit Go.Shelf
theorem c_rPlace (x y : Int) (w : World) :
    Calls Tryz.prog 57 #[.agg #[.int .i64 x, .int .i64 y]] w fun e w' => e = .returned (.bool (plB x y)) ∧ Below w.heap.size w w' := by
  have hb := balloc (Below.refl w.heap.size w) (.cells #[.int .i64 x, .int .i64 y] 25)
  by_cases h1 : 0 ≤ x
  · by_cases h2 : x ≤ 4095
    · by_cases h3 : 0 ≤ y
      · by_cases h4 : y ≤ 4095
        · have H := hide (show plB x y = true by unfold plB inB; simp [h1, h2, h3, h4])
          go_enter Tryz.func57, Tryz.ntmps57
          go_wp2_with fail
          go_ret
          exact ⟨ret_bool H.out.symm, hb⟩
        · have H := hide (show plB x y = false by unfold plB inB; simp [h4])
          go_enter Tryz.func57, Tryz.ntmps57
          go_wp2_with fail
          go_ret
          exact ⟨ret_bool H.out.symm, hb⟩
      · have H := hide (show plB x y = false by unfold plB inB; simp [h3])
        go_enter Tryz.func57, Tryz.ntmps57
        go_wp2_with fail
        go_ret
        exact ⟨ret_bool H.out.symm, hb⟩
    · have H := hide (show plB x y = false by unfold plB inB; simp [h2])
      go_enter Tryz.func57, Tryz.ntmps57
      go_wp2_with fail
      go_ret
      exact ⟨ret_bool H.out.symm, hb⟩
  · have H := hide (show plB x y = false by unfold plB inB; simp [h1])
    go_enter Tryz.func57, Tryz.ntmps57
    go_wp2_with fail
    go_ret
    exact ⟨ret_bool H.out.symm, hb⟩
theorem c_rFind (A : Option Addr) (N c : Nat) (l : List MR) (n : Int) (w : World) (hn : N ≤ 9223372036854775807) (hr : SlR w w.heap.size 2 A N (l.flatMap cM)) :
    Calls Tryz.prog 47 #[.slice A N c, .int .i64 n] w fun e w' => e = .returned (.int .i64 (idxF (fun r : MR => decide (r.id = n)) l 0)) ∧ w = w' := by
  have hl := hr.lenm
  have HL := hide hl
  clear hl
  go_enter Tryz.func47, Tryz.ntmps47
  go_wp2
  go_loop [5] (fun i => ∃ k : Nat, k ≤ N ∧ i = .int .i64 k ∧ idxF (fun r : MR => decide (r.id = n)) (l.drop k) k = idxF (fun r : MR => decide (r.id = n)) l 0) (fun i => N - (intOf i).toNat)
  case atStart => exact ⟨0, Nat.zero_le _, rfl, rfl⟩
  case round =>
    obtain ⟨k, hk, rfl, ho⟩ := hrel
    by_cases hlt : k < N
    · have hkl : k < l.length := by have := HL.out; omega
      obtain ⟨b, off, rfl, hbb, x0, x1⟩ := hr.atM (Below.refl _ _) hkl
      have hd : l.drop k = l[k] :: l.drop (k + 1) := List.drop_eq_getElem_cons hkl
      rw [hd] at ho
      have HO := hide ho
      clear ho hd hr
      generalize l[k] = r at *
      have hlt' : (k : Int) < (N : Int) := by omega
      by_cases hq : r.id = n
      · have hd : (r.id == n) = true := by simpa using hq
        have HQ := hide hq
        clear hq
        go_wp2_with fail
        go_ret
        have h := HO.out
        exact ⟨ret_int (by rw [← h, idxF, if_pos (decide_eq_true HQ.out)]), rfl⟩
      · have hd : (r.id == n) = false := by simpa using hq
        have HQ := hide hq
        clear hq
        go_wp2_with fail
        go_round
        case rel =>
          have h := HO.out
          exact ⟨k + 1, by omega, by go_num, by rw [← h, idxF, if_neg (by simpa using HQ.out)]⟩
        case measure => simp [intOf]; omega
    · have HO := hide ho
      clear ho hr
      go_wp2_with fail
      go_ret
      have h := HO.out
      rw [List.drop_eq_nil_of_le (by have := HL.out; omega)] at h
      exact ⟨ret_int h, rfl⟩
theorem c_rHas (A : Option Addr) (N c : Nat) (l : List Int) (n : Int) (w : World) (hn : N ≤ 9223372036854775807) (hr : SlR w w.heap.size 1 A N (l.flatMap cN)) :
    Calls Tryz.prog 62 #[.slice A N c, .int .i64 n] w fun e w' => e = .returned (.bool (decide (n ∈ l))) ∧ w = w' := by
  have hl := hr.lenN
  have HL := hide hl
  clear hl
  go_enter Tryz.func62, Tryz.ntmps62
  go_wp2
  go_loop [5] (fun i => ∃ k : Nat, k ≤ N ∧ i = .int .i64 k ∧ (n ∈ l ↔ n ∈ l.drop k)) (fun i => N - (intOf i).toNat)
  case atStart => exact ⟨0, Nat.zero_le _, rfl, Iff.rfl⟩
  case round =>
    obtain ⟨k, hk, rfl, ho⟩ := hrel
    by_cases hlt : k < N
    · have hkl : k < l.length := by have := HL.out; omega
      obtain ⟨b, off, rfl, hbb, x0⟩ := hr.atN (Below.refl _ _) hkl
      have hd : l.drop k = l[k] :: l.drop (k + 1) := List.drop_eq_getElem_cons hkl
      rw [hd, List.mem_cons] at ho
      have HO := hide ho
      clear ho hd hr
      generalize l[k] = r at *
      have hlt' : (k : Int) < (N : Int) := by omega
      by_cases hq : r = n
      · have hd : (r == n) = true := by simpa using hq
        have HQ := hide (decide_eq_true (HO.out.2 (.inl hq.symm)))
        clear hq
        go_wp2_with fail
        go_ret
        exact ⟨ret_bool HQ.out.symm, rfl⟩
      · have hd : (r == n) = false := by simpa using hq
        have HQ := hide (show n ∈ l ↔ n ∈ l.drop (k + 1) from HO.out.trans ⟨fun h => h.elim (fun e => absurd e.symm hq) id, .inr⟩)
        clear hq
        go_wp2_with fail
        go_round
        case rel => exact ⟨k + 1, by omega, by go_num, HQ.out⟩
        case measure => simp [intOf]; omega
    · rw [List.drop_eq_nil_of_le (by have := HL.out; omega)] at ho
      have HO := hide (show decide (n ∈ l) = false from decide_eq_false (fun h => by have := ho.1 h; cases this))
      clear ho hr
      go_wp2_with fail
      go_ret
      exact ⟨ret_bool HO.out.symm, rfl⟩
end Go.Proofs.YtncdombfhcfobaaGreat
/- Contracts of the reference's ProperItems, Proper. -/
namespace Go.Proofs.YtncdombfhcfobaaGreat
open Go.RowKit Go.Shelf
/-- what the reference's first test of an item finds -/
def piV (s : It) (k : Nat) (pv : Int) : Bool := decide (s.id < 0) || decide (99 < s.id) || (decide (0 < k) && decide (s.id ≤ pv)) || !plB s.x s.y
set_option linter.unusedSimpArgs false in
set_option maxRecDepth 100000 in
set_option maxHeartbeats 4000000 in
theorem c_rProperItems (A : Option Addr) (n c : Nat) (l : List It) (w : World) (hn : n ≤ 9223372036854775807) (hr : SlR w w.heap.size 6 A n (l.flatMap cI)) :
    Calls Tryz.prog 58 #[.slice A n c] w fun e w' => e = .returned (.bool (itsOk l)) ∧ Below w.heap.size w w' := by
  have hl := hr.lenI
  by_cases h12 : 12 < n
  · have h12' : (12 : Int) < (n : Int) := by omega
    have HR := hide (show itsOk l = false by unfold itsOk; rw [decide_eq_false (by omega)]; rfl)
    clear hl hr
    go_enter Tryz.func58, Tryz.ntmps58
    go_wp2_with fail
    go_ret
    exact ⟨ret_bool HR.out.symm, Below.refl _ _⟩
  · have h12' : ¬ (12 : Int) < (n : Int) := by omega
    have HL := hide hl
    have HB := hide hr
    clear hl hr
    go_enter Tryz.func58, Tryz.ntmps58
    go_wp2_with fail
    go_loopw [3] (fun i wr => ∃ k : Nat, k ≤ n ∧ i = .int .i64 k ∧ AscAt 0 99 (-1) (l.map (·.id)) k ∧ (l.take k).all itOk = true ∧ Below w.heap.size w wr) (fun i _ => n - (intOf i).toNat)
    case atStart => exact ⟨0, Nat.zero_le _, rfl, AscAt.start _ _ _ _, rfl, Below.refl _ _⟩
    case round =>
      obtain ⟨k, hk, rfl, ha, hal, hb⟩ := hrel
      obtain ⟨wo, rfl⟩ : ∃ W : World, W = wr := ⟨_, rfl⟩
      by_cases hlt : k < n
      · have hkl : k < l.length := by rw [HL.out]; exact hlt
        have hki : k < (l.map (·.id)).length := by simpa using hkl
        have hrw := HB.out.to' hb
        obtain ⟨b, off, hAe, hbb, x0, x1, x2, x3, x4, x5⟩ := hrw.atI (Below.refl _ _) hkl
        subst hAe
        obtain ⟨pv, hpv⟩ : ∃ pv : Int, pv = if h : 0 < k then l[k - 1].id else 0 := ⟨_, rfl⟩
        have HPV := hide hpv
        have HV1 : Hid (piV l[k] k pv = true → itsOk l = false) := hide fun h => by
          unfold itsOk
          unfold piV at h
          simp only [Bool.or_eq_true, Bool.and_eq_true, decide_eq_true_eq, Bool.not_eq_true'] at h
          rcases h with ((h | h) | ⟨h1, h2⟩) | h
          · rw [ha.out hki (by simp [inB]; omega)]; simp
          · rw [ha.out hki (by simp [inB]; omega)]; simp
          · rw [hpv, dif_pos h1] at h2
            rw [ha.low hki h1 (by simpa using h2)]; simp
          · have : l.all itOk = false := List.all_eq_false.2 ⟨l[k], List.getElem_mem hkl, by unfold itOk; unfold plB at h; rw [h]; simp⟩
            rw [this]; simp
        have HV0 : Hid (piV l[k] k pv = false → AscAt 0 99 (-1) (l.map (·.id)) (k + 1) ∧ plB l[k].x l[k].y = true) := hide fun h => by
          unfold piV at h
          simp only [Bool.or_eq_false_iff, Bool.and_eq_false_iff, decide_eq_false_iff_not, Bool.not_eq_false'] at h
          obtain ⟨⟨⟨h1, h2⟩, h3⟩, h4⟩ := h
          refine ⟨ha.next hki (by simp [inB]; omega) (by omega) (fun h0 => ?_), h4⟩
          rcases h3 with h3 | h3
          · exact absurd h0 h3
          · rw [hpv, dif_pos h0] at h3
            simp only [List.getElem_map]
            omega
        have HIT : Hid (itOk l[k] = false → itsOk l = false) := hide fun h => by
          unfold itsOk
          have : l.all itOk = false := List.all_eq_false.2 ⟨l[k], List.getElem_mem hkl, by rw [h]; simp⟩
          rw [this]; simp
        have HIA : Hid (itOk l[k] = true → (l.take (k + 1)).all itOk = true) := hide fun h => by
          rw [List.take_succ_eq_append_getElem hkl, List.all_append, hal]
          simp [h]
        have HPC : Hid (∀ (h : 0 < k) (x : BW wo), x.val.cell? ⟨b, off + (k - 1) * 6, none⟩ = some (.int .i64 pv)) := hide fun h x => by
          have := (hrw.bwI (k := k - 1) (by omega) x).1
          rw [hpv, dif_pos h]
          exact this
        have HIO : Hid (itOk l[k] = (plB l[k].x l[k].y && ((decide (l[k].kind = 1) && decide (l[k].text.size ≤ 40) && decide (l[k].mod = 0)) || (decide (l[k].kind = 2) && decide (l[k].text = ByteArray.empty) && inB l[k].mod 1 20)))) := hide rfl
        generalize l[k] = s at x0 x1 x2 x3 x4 x5 HV1 HV0 HIT HIA HIO
        have gS : Blk (wo.alloc (.cells #[.int .i64 s.id, .int .i64 s.kind, .int .i64 s.x, .int .i64 s.y, .string s.text, .int .i64 s.mod] 27)) wo.heap.size 27 (cI s) := Blk.new wo 27 (cI s)
        have hb1 := balloc (Below.refl wo.heap.size wo) (.cells #[.int .i64 s.id, .int .i64 s.kind, .int .i64 s.x, .int .i64 s.y, .string s.text, .int .i64 s.mod] 27)
        have HBo := hide (bthen hb hb1)
        have HPC1 : Hid (∀ (_ : 0 < k) (x : BW (wo.alloc (.cells #[.int .i64 s.id, .int .i64 s.kind, .int .i64 s.x, .int .i64 s.y, .string s.text, .int .i64 s.mod] 27))), x.val.cell? ⟨b, off + (k - 1) * 6, none⟩ = some (.int .i64 pv)) := hide (fun h x => HPC.out h ⟨x.val, bthen hb1 x.ok⟩)
        have hszb := hb1.size
        have hlt' : (k : Int) < (n : Int) := by omega
        clear hpv ha hal hki hrw hb hb1
        go_upto_region 7 with (fail)
        clear x0 x1 x2 x3 x4 x5
        generalize wo.alloc (.cells #[.int .i64 s.id, .int .i64 s.kind, .int .i64 s.x, .int .i64 s.y, .string s.text, .int .i64 s.mod] 27) = w1 at *
        have hsz : b < w1.heap.size := Nat.lt_of_lt_of_le hbb hszb
        generalize wo.heap.size = bs at *
        have HG := hide gS
        have f0 := fun (x : BW w1) => ((gS.below x.ok gS.lt).allI).1
        have f2 := fun (x : BW w1) => ((gS.below x.ok gS.lt).allI).2.2.1
        have f3 := fun (x : BW w1) => ((gS.below x.ok gS.lt).allI).2.2.2.1
        have lS := gS.lt
        clear gS
        go_cut [46] from 18 to 46 (fun u wx => u = .bool (piV s k pv) ∧ Below w1.heap.size w1 wx)
        case first =>
          have HPl : Hid (∀ W : World, Calls Tryz.prog 57 #[.agg #[.int .i64 s.x, .int .i64 s.y]] W fun e w' => e = .returned (.bool (plB s.x s.y)) ∧ Below W.heap.size W w') := hide fun W => c_rPlace s.x s.y W
          obtain ⟨bp, hbp⟩ : ∃ bp, bp = plB s.x s.y := ⟨_, rfl⟩
          rw [← hbp] at HPl
          have HBP := hide hbp
          clear hbp
          by_cases h1 : s.id < 0
          · have H1 := hide h1
            have HX := hide (show piV s k pv = true by unfold piV; rw [decide_eq_true H1.out]; rfl)
            refine wp_region_bw w1 (Below.refl _ _) (by kernel_rfl) (by kernel_rfl) ?_
            repeat (go_big_quiet_step (fail))
            refine wpQuiet_nil ?_
            intro w2 hb2
            (try go_wp2_with fail)
            go_meet
            exact ⟨congrArg Value.bool HX.out.symm, hb2⟩
          · by_cases h2 : 99 < s.id
            · have H2 := hide h2
              have HX := hide (show piV s k pv = true by unfold piV; rw [decide_eq_true H2.out]; simp)
              refine wp_region_bw w1 (Below.refl _ _) (by kernel_rfl) (by kernel_rfl) ?_
              repeat (go_big_quiet_step (fail))
              refine wpQuiet_nil ?_
              intro w2 hb2
              (try go_wp2_with fail)
              go_meet
              exact ⟨congrArg Value.bool HX.out.symm, hb2⟩
            · have H1 := hide h1
              have H2 := hide h2
              by_cases h0 : 0 < k
              · have H0 := hide h0
                obtain ⟨k', hk'⟩ : ∃ k' : Nat, k = k' + 1 := ⟨k - 1, by omega⟩
                have hkk : (k : Int) - 1 = (k' : Int) := by omega
                have hk0 : (0 : Int) < (k : Int) := by omega
                have hkl' : (k' : Int) < (n : Int) := by omega
                have fp := fun (x : BW w1) => HPC1.out h0 x
                rw [show k - 1 = k' by omega] at fp
                have HK' := hide hk'
                clear hk'
                by_cases h3 : s.id ≤ pv
                · have H3 := hide h3
                  have HX := hide (show piV s k pv = true by unfold piV; rw [decide_eq_true H0.out, decide_eq_true H3.out]; simp)
                  refine wp_region_bw w1 (Below.refl _ _) (by kernel_rfl) (by kernel_rfl) ?_
                  repeat (go_big_quiet_step (fail))
                  refine wpQuiet_nil ?_
                  intro w2 hb2
                  (try go_wp2_with fail)
                  go_meet
                  exact ⟨congrArg Value.bool HX.out.symm, hb2⟩
                · have H3 := hide h3
                  have HX := hide (show piV s k pv = !bp by unfold piV; rw [decide_eq_false H1.out, decide_eq_false H2.out, decide_eq_false H3.out, HBP.out]; simp)
                  refine wp_region_bw w1 (Below.refl _ _) (by kernel_rfl) (by kernel_rfl) ?_
                  repeat (go_big_quiet_step ((go_at_call 57; exact bw_call (HPl.out _))))
                  refine wpQuiet_nil ?_
                  intro w2 hb2
                  (try go_wp2_with fail)
                  go_meet
                  exact ⟨congrArg Value.bool HX.out.symm, hb2⟩
              · have H0 := hide h0
                have hk0 : ¬ (0 : Int) < (k : Int) := by omega
                have HX := hide (show piV s k pv = !bp by unfold piV; rw [decide_eq_false H1.out, decide_eq_false H2.out, decide_eq_false H0.out, HBP.out]; simp)
                refine wp_region_bw w1 (Below.refl _ _) (by kernel_rfl) (by kernel_rfl) ?_
                repeat (go_big_quiet_step ((go_at_call 57; exact bw_call (HPl.out _))))
                refine wpQuiet_nil ?_
                intro w2 hb2
                (try go_wp2_with fail)
                go_meet
                exact ⟨congrArg Value.bool HX.out.symm, hb2⟩
        case rest =>
          obtain ⟨w2, rfl⟩ : ∃ W : World, W = wc := ⟨_, rfl⟩
          obtain ⟨rfl, hb12⟩ := hcut
          have gS := HG.out.below hb12 HG.out.lt
          obtain ⟨y0, y1, y2, y3, y4, y5⟩ := gS.allI
          have lS2 := gS.lt
          have HW := hide (bthen HBo.out hb12)
          clear f0 f2 f3 gS hb12 lS
          cases hP : piV s k pv with
          | true =>
            have HR := hide (HV1.out hP)
            clear hP
            go_wp2_with fail
            go_ret
            exact ⟨ret_bool HR.out.symm, HW.out⟩
          | false =>
            have HA := hide (HV0.out hP)
            clear hP
            by_cases hk1 : s.kind = 1
            · have hkb : (s.kind == 1) = true := by simpa using hk1
              have HK := hide hk1
              clear hk1
              by_cases h4 : s.text.size ≤ 40
              · have h4' : ¬ (40 : Int) < (s.text.size : Int) := by omega
                by_cases h5 : s.mod = 0
                · have h5' : (s.mod != 0) = false := by simpa using h5
                  have HI := hide (HIA.out (by rw [HIO.out, HA.out.2, decide_eq_true HK.out, decide_eq_true h4, decide_eq_true h5]; rfl))
                  clear h5
                  go_wp2_with fail
                  go_roundw
                  case rel => exact ⟨k + 1, by omega, by go_num, HA.out.1, HI.out, HW.out⟩
                  case measure => simp [intOf]; omega
                · have h5' : (s.mod != 0) = true := by simpa using h5
                  have HI := hide (HIT.out (by rw [HIO.out, decide_eq_false h5, decide_eq_false (show ¬ s.kind = 2 by have := HK.out; omega)]; simp))
                  clear h5
                  go_wp2_with fail
                  go_ret
                  exact ⟨ret_bool HI.out.symm, HW.out⟩
              · have h4' : (40 : Int) < (s.text.size : Int) := by omega
                have HI := hide (HIT.out (by rw [HIO.out, decide_eq_false h4, decide_eq_false (show ¬ s.kind = 2 by have := HK.out; omega)]; simp))
                go_wp2_with fail
                go_ret
                exact ⟨ret_bool HI.out.symm, HW.out⟩
            · by_cases hk2 : s.kind = 2
              · have hkb : (s.kind == 1) = false := by simpa using hk1
                have hkc : (s.kind == 2) = true := by simpa using hk2
                have HK := hide (And.intro hk1 hk2)
                clear hk1 hk2
                by_cases h4 : s.text = ByteArray.empty
                · have H4 := hide h4
                  rw [h4] at y4
                  clear h4
                  by_cases h5 : 1 ≤ s.mod
                  · by_cases h6 : s.mod ≤ 20
                    · have HI := hide (HIA.out (by rw [HIO.out, HA.out.2, decide_eq_true HK.out.2, decide_eq_true H4.out, show inB s.mod 1 20 = true from inB_iff.2 ⟨h5, h6⟩]; simp))
                      go_wp2_with fail
                      go_roundw
                      case rel => exact ⟨k + 1, by omega, by go_num, HA.out.1, HI.out, HW.out⟩
                      case measure => simp [intOf]; omega
                    · have HI := hide (HIT.out (by rw [HIO.out, decide_eq_false HK.out.1, show inB s.mod 1 20 = false by unfold inB; simp [h6]]; simp))
                      go_wp2_with fail
                      go_ret
                      exact ⟨ret_bool HI.out.symm, HW.out⟩
                  · have HI := hide (HIT.out (by rw [HIO.out, decide_eq_false HK.out.1, show inB s.mod 1 20 = false by unfold inB; simp [h5]]; simp))
                    go_wp2_with fail
                    go_ret
                    exact ⟨ret_bool HI.out.symm, HW.out⟩
                · have h4' : ¬ s.text.toList = [] := fun e => h4 ((text_iff _ ⟨#[]⟩).1 (e.trans (by simp)))
                  have HI := hide (HIT.out (by rw [HIO.out, decide_eq_false HK.out.1, decide_eq_false h4]; simp))
                  have H4 := hide h4
                  clear h4
                  go_wp2_with fail
                  go_ret
                  exact ⟨ret_bool HI.out.symm, HW.out⟩
              · have hkb : (s.kind == 1) = false := by simpa using hk1
                have hkc : (s.kind == 2) = false := by simpa using hk2
                have HI := hide (HIT.out (by rw [HIO.out, decide_eq_false hk1, decide_eq_false hk2]; simp))
                have HK := hide (And.intro hk1 hk2)
                clear hk1 hk2
                go_wp2_with fail
                go_ret
                exact ⟨ret_bool HI.out.symm, HW.out⟩
      · have hR : itsOk l = true := by
          unfold itsOk
          have h1 := ha.done (by rw [List.length_map, HL.out]; omega)
          have h2 : l.all itOk = true := by
            have := hal
            rwa [List.take_of_length_le (by rw [HL.out]; omega)] at this
          rw [h1, h2, decide_eq_true (by rw [HL.out]; omega)]
          rfl
        have HR := hide hR
        clear hR ha hal
        go_wp2_with fail
        go_ret
        exact ⟨ret_bool HR.out.symm, hb⟩
set_option linter.unusedSimpArgs false in
set_option maxRecDepth 100000 in
theorem c_rProper (r : MR) (l : List It) (w : World) (hn : r.n ≤ 9223372036854775807) (hr : SlR w w.heap.size 6 r.a r.n (l.flatMap cI)) :
    Calls Tryz.prog 32 #[mrV r] w fun e w' => e = .returned (.bool (inB r.id 1 20 && itsOk l)) ∧ Below w.heap.size w w' := by
  have hb0 := balloc (Below.refl w.heap.size w) (.cells #[.int .i64 r.id, .slice r.a r.n r.c] 37)
  have hk := c_rProperItems r.a r.n r.c l _ hn (hr.to' hb0)
  clear hr
  unfold mrV
  by_cases h1 : 1 ≤ r.id
  · by_cases h2 : r.id ≤ 20
    · have H := hide (show inB r.id 1 20 = true from inB_iff.2 ⟨h1, h2⟩)
      go_enter Tryz.func32, Tryz.ntmps32
      go_wp2_with fail
      refine hk.mono ?_
      rintro e w1 ⟨rfl, hb1⟩
      have HB := hide (bthen hb0 hb1)
      clear hk hb1
      go_wp2_with fail
      go_ret
      exact ⟨ret_bool (by rw [H.out]; rfl), HB.out⟩
    · have H := hide (show (inB r.id 1 20 && itsOk l) = false by unfold inB; simp [h2])
      clear hk
      go_enter Tryz.func32, Tryz.ntmps32
      go_wp2_with fail
      go_ret
      exact ⟨ret_bool H.out.symm, hb0⟩
  · have H := hide (show (inB r.id 1 20 && itsOk l) = false by unfold inB; simp [h1])
    clear hk
    go_enter Tryz.func32, Tryz.ntmps32
    go_wp2_with fail
    go_ret
    exact ⟨ret_bool H.out.symm, hb0⟩
end Go.Proofs.YtncdombfhcfobaaGreat
/- Contracts of the reference's SameCopy, SameAll. -/
namespace Go.Proofs.YtncdombfhcfobaaGreat
open Go.RowKit Go.Shelf
set_option maxRecDepth 100000 in
set_option maxHeartbeats 2000000 in
theorem c_rSameCopy (r s : CR) (c d : Cp) (w : World) (h : CpR w r c) (k : CpR w s d) :
    Calls Tryz.prog 18 #[crV r, crV s] w fun e w' => e = .returned (.bool (sameCp c d)) ∧ Below w.heap.size w w' := by
  have hb0 := balloc (balloc (Below.refl w.heap.size w) (.cells #[.int .i64 r.code, .int .i64 r.mod, .int .i64 r.x, .int .i64 r.y, .slice r.a r.n r.c, .slice r.a2 r.n2 r.c2] 32)) (.cells #[.int .i64 s.code, .int .i64 s.mod, .int .i64 s.x, .int .i64 s.y, .slice s.a s.n s.c, .slice s.a2 s.n2 s.c2] 32)
  have h0 := h.to hb0
  have k0 := k.to hb0
  obtain ⟨⟨e1, e2, e3, e4⟩, ⟨_, hn, hr⟩, ⟨_, hm, hs⟩⟩ := h0
  obtain ⟨⟨f1, f2, f3, f4⟩, ⟨_, kn, kr⟩, ⟨_, km, ks⟩⟩ := k0
  have hcI := c_rSameItems r.a r.n r.c c.changes s.a s.n s.c d.changes _ (by omega) (by omega) hr kr
  have gR : Blk ((w.alloc (.cells #[.int .i64 r.code, .int .i64 r.mod, .int .i64 r.x, .int .i64 r.y, .slice r.a r.n r.c, .slice r.a2 r.n2 r.c2] 32)).alloc (.cells #[.int .i64 s.code, .int .i64 s.mod, .int .i64 s.x, .int .i64 s.y, .slice s.a s.n s.c, .slice s.a2 s.n2 s.c2] 32)) w.heap.size 32 (cC r) := (Blk.new w 32 (cC r)).alloc _
  have gS : Blk ((w.alloc (.cells #[.int .i64 r.code, .int .i64 r.mod, .int .i64 r.x, .int .i64 r.y, .slice r.a r.n r.c, .slice r.a2 r.n2 r.c2] 32)).alloc (.cells #[.int .i64 s.code, .int .i64 s.mod, .int .i64 s.x, .int .i64 s.y, .slice s.a s.n s.c, .slice s.a2 s.n2 s.c2] 32)) (w.heap.size + 1) 32 (cC s) := by
    have := Blk.new (w.alloc (.cells #[.int .i64 r.code, .int .i64 r.mod, .int .i64 r.x, .int .i64 r.y, .slice r.a r.n r.c, .slice r.a2 r.n2 r.c2] 32)) 32 (cC s)
    rw [show (w.alloc (.cells #[.int .i64 r.code, .int .i64 r.mod, .int .i64 r.x, .int .i64 r.y, .slice r.a r.n r.c, .slice r.a2 r.n2 r.c2] 32)).heap.size = w.heap.size + 1 from by simp] at this
    exact this
  have HE : Hid (sameCp c d = (decide (r.code = s.code) && decide (r.mod = s.mod) && decide (r.x = s.x ∧ r.y = s.y) && decide (c.changes = d.changes) && decide (c.gone = d.gone))) := hide (by unfold sameCp; rw [e1, e2, e3, e4, f1, f2, f3, f4])
  have HS := hide (And.intro hs ks)
  clear h k e1 e2 e3 e4 f1 f2 f3 f4 hr kr hs ks
  unfold crV
  by_cases h1 : r.code = s.code
  · have d1 : (r.code == s.code) = true := by simpa using h1
    by_cases h2 : r.mod = s.mod
    · have d2 : (r.mod == s.mod) = true := by simpa using h2
      by_cases h3 : r.x = s.x ∧ r.y = s.y
      · have HE := hide (show sameCp c d = (decide (c.changes = d.changes) && decide (c.gone = d.gone)) by rw [HE.out]; simp [h1, h2, h3])
        have q3 : ∀ w, (binOp .eql 25 (.agg #[.int .i64 r.x, .int .i64 r.y]) (.agg #[.int .i64 s.x, .int .i64 s.y])).run Tryz.prog w = .ok (.bool true) w := fun w => by rw [eqlPl]; simp [h3]
        clear h1 h2 h3
        go_enter Tryz.func18, Tryz.ntmps18
        go_wp2_with fail
        refine hcI.mono ?_
        clear hcI
        rintro e w1 ⟨rfl, hb1⟩
        obtain ⟨_, _, _, _, _, x5⟩ := (gR.below hb1 gR.lt).allC
        obtain ⟨_, _, _, _, _, y5⟩ := (gS.below hb1 gS.lt).allC
        have hl1 := (gS.below hb1 gS.lt).lt
        have hb01 := bthen hb0 hb1
        by_cases h4 : c.changes = d.changes
        · have d4 : decide (c.changes = d.changes) = true := by simpa using h4
          have HE := hide (show sameCp c d = decide (c.gone = d.gone) by rw [HE.out, d4]; rfl)
          have hcN := c_rInts r.a2 r.n2 r.c2 c.gone s.a2 s.n2 s.c2 d.gone _ (by omega) (by omega) (HS.out.1.to' hb1) (HS.out.2.to' hb1)
          clear h4 gR gS
          go_wp2_with fail
          refine hcN.mono ?_
          clear hcN
          rintro e w2 ⟨rfl, hb2⟩
          go_wp2
          go_ret
          exact ⟨ret_bool HE.out.symm, bthen hb01 hb2⟩
        · have d4 : decide (c.changes = d.changes) = false := by simpa using h4
          have HE := hide (show sameCp c d = false by rw [HE.out, d4]; rfl)
          clear h4 gR gS
          go_wp2
          go_ret
          exact ⟨ret_bool HE.out.symm, hb01⟩
      · have HE := hide (show sameCp c d = false by rw [HE.out]; simp [h3])
        have q3 : ∀ w, (binOp .eql 25 (.agg #[.int .i64 r.x, .int .i64 r.y]) (.agg #[.int .i64 s.x, .int .i64 s.y])).run Tryz.prog w = .ok (.bool false) w := fun w => by rw [eqlPl]; simp [h3]
        clear h1 h2 h3 hcI gR gS
        go_enter Tryz.func18, Tryz.ntmps18
        go_wp2
        go_ret
        exact ⟨ret_bool HE.out.symm, hb0⟩
    · have d2 : (r.mod == s.mod) = false := by simpa using h2
      have HE := hide (show sameCp c d = false by rw [HE.out]; simp [h2])
      clear h1 h2 hcI gR gS
      go_enter Tryz.func18, Tryz.ntmps18
      go_wp2
      go_ret
      exact ⟨ret_bool HE.out.symm, hb0⟩
  · have d1 : (r.code == s.code) = false := by simpa using h1
    have HE := hide (show sameCp c d = false by rw [HE.out]; simp [h1])
    clear h1 hcI gR gS
    go_enter Tryz.func18, Tryz.ntmps18
    go_wp2
    go_ret
    exact ⟨ret_bool HE.out.symm, hb0⟩
theorem calls_b3 {P : Program} {f : FuncId} {args : Array Value} {W : World} {b b' : Bool} (h : Calls P f args W fun e w' => e = .returned (.bool b) ∧ Below W.heap.size W w') (e : b = b') : Calls P f args W fun e w' => e = .returned (.bool b') ∧ Below W.heap.size W w' := e ▸ h
theorem split2' {α : Type} {a b : α → Prop} (h : ∀ x, a x ∧ b x) : (∀ x, a x) ∧ (∀ x, b x) := ⟨fun x => (h x).1, fun x => (h x).2⟩
set_option linter.unusedSimpArgs false in
set_option maxRecDepth 100000 in
set_option maxHeartbeats 2000000 in
/-- lists that hold the same modules: true -/
theorem c_rSameAll (A B : Option Addr) (n c m d : Nat) (rows rows' : List MR) (ms : List Mo) (w : World) (hn : n ≤ 9223372036854775807) (hr : SlR w w.heap.size 2 A n (rows.flatMap cM)) (hs : SlR w w.heap.size 2 B m (rows'.flatMap cM)) (hm : Mods w rows ms) (hm' : Mods w rows' ms) :
    Calls Tryz.prog 30 #[.slice A n c, .slice B m d] w fun e w' => e = .returned (.bool true) ∧ Below w.heap.size w w' := by
  have h1 := hr.lenm
  have h2 := hs.lenm
  have h3 := hm.1
  have h4 := hm'.1
  have hnm : n = m := by omega
  subst hnm
  have hnn : ((n : Int) != (n : Int)) = false := by simp
  have HL := hide (And.intro h1 (And.intro h2 h3))
  have HB := hide (And.intro hr (And.intro hs (And.intro hm hm')))
  clear h1 h2 h3 h4 hr hs hm hm'
  go_enter Tryz.func30, Tryz.ntmps30
  go_wp2_with fail
  go_loopw [5] (fun i wr => ∃ k : Nat, k ≤ n ∧ i = .int .i64 k ∧ Below w.heap.size w wr) (fun i _ => n - (intOf i).toNat)
  case atStart => exact ⟨0, Nat.zero_le _, rfl, Below.refl _ _⟩
  case round =>
    obtain ⟨k, hk, rfl, hb⟩ := hrel
    by_cases hlt : k < n
    · have hk1 : k < rows.length := by rw [HL.out.1]; exact hlt
      have hk2 : k < rows'.length := by rw [HL.out.2.1]; exact hlt
      have hk3 : k < ms.length := by rw [← HL.out.2.2]; exact hk1
      have sl := HB.out.1.to' hb
      have sl' := HB.out.2.1.to' hb
      obtain ⟨e1, e2, e3, e4⟩ := (HB.out.2.2.1.to hb).2 k hk1 hk3
      obtain ⟨f1, f2, f3, f4⟩ := (HB.out.2.2.2.to hb).2 k hk2 hk3
      obtain ⟨b1, o1, hA, hb1, -, -⟩ := sl.atM (Below.refl _ _) hk1
      obtain ⟨b2, o2, hB, hb2, -, -⟩ := sl'.atM (Below.refl _ _) hk2
      subst hA
      subst hB
      have fM := sl.bwM hk1
      have fN := sl'.bwM hk2
      have hS := fun (x : BW wr) => calls_b3 (c_rSame rows[k] rows'[k] ms[k].items ms[k].items x.val (by omega) (by omega) (e4.to' x.ok) (f4.to' x.ok)) (b' := true) (by simp [e1, f1])
      generalize rows[k] = q at *
      generalize rows'[k] = q' at *
      obtain ⟨qi, qa, qn, qc⟩ := q
      obtain ⟨qi', qa', qn', qc'⟩ := q'
      simp only at fM fN hS
      obtain ⟨fM0, fM1⟩ := split2' fM
      obtain ⟨fN0, fN1⟩ := split2' fN
      have HS := hide hS
      have HBR := hide hb
      have hlt' : (k : Int) < (n : Int) := by omega
      clear sl sl' e1 e2 e3 e4 f1 f2 f3 f4 fM fN hS hb
      go_wp2_with fail
      refine wp_region_bw wr (Below.refl _ _) (by kernel_rfl) (by kernel_rfl) ?_
      repeat (go_big_quiet_step ((go_at_call 34; exact bw_call (HS.out _))))
      refine wpQuiet_nil ?_
      intro w1 hb3
      have HBS := hide (bthen HBR.out hb3)
      clear hb3
      go_wp2_with fail
      go_roundw
      case rel => exact ⟨k + 1, by omega, by go_num, HBS.out⟩
      case measure => simp [intOf]; omega
    · go_wp2_with fail
      go_ret
      exact ⟨rfl, hb⟩
end Go.Proofs.YtncdombfhcfobaaGreat
/- What a loop over all numbers collects; contract: the reference's Differ. -/
namespace Go.Proofs.YtncdombfhcfobaaGreat
open Go.RowKit Go.Shelf
/-- what is found at the numbers below n, in order -/
def colI (f : Nat → Option It) : Nat → List It
  | 0 => []
  | n + 1 => match f n with
    | some x => colI f n ++ [x]
    | none => colI f n
def colN (p : Nat → Bool) : Nat → List Int
  | 0 => []
  | n + 1 => if p n then colN p n ++ [(n : Int)] else colN p n
theorem colI_some {f : Nat → Option It} {n : Nat} {x : It} (h : f n = some x) : colI f (n + 1) = colI f n ++ [x] := by simp [colI, h]
theorem colI_none {f : Nat → Option It} {n : Nat} (h : f n = none) : colI f (n + 1) = colI f n := by simp [colI, h]
theorem colN_true {p : Nat → Bool} {n : Nat} (h : p n = true) : colN p (n + 1) = colN p n ++ [(n : Int)] := by simp [colN, h]
theorem colN_false {p : Nat → Bool} {n : Nat} (h : p n = false) : colN p (n + 1) = colN p n := by simp [colN, h]
theorem colI_len (f : Nat → Option It) : ∀ n, (colI f n).length ≤ n
  | 0 => Nat.le_refl _
  | n + 1 => by
    have := colI_len f n
    unfold colI
    split <;> simp <;> omega
theorem colN_len (p : Nat → Bool) : ∀ n, (colN p n).length ≤ n
  | 0 => Nat.le_refl _
  | n + 1 => by
    have := colN_len p n
    unfold colN
    split <;> simp <;> omega
theorem colI_mem {f : Nat → Option It} (hf : ∀ n x, f n = some x → x.id = n) : ∀ (n : Nat) (x : It), x ∈ colI f n ↔ ∃ m, m < n ∧ f m = some x
  | 0, x => by simp [colI]
  | n + 1, x => by
    have ih := colI_mem hf n x
    cases h : f n with
    | some y =>
      rw [colI_some h, List.mem_append, ih, List.mem_singleton]
      constructor
      · rintro (⟨m, h1, h2⟩ | rfl)
        · exact ⟨m, by omega, h2⟩
        · exact ⟨n, by omega, h⟩
      · rintro ⟨m, h1, h2⟩
        by_cases e : m = n
        · subst e; rw [h] at h2; injection h2 with h2; exact .inr h2.symm
        · exact .inl ⟨m, by omega, h2⟩
    | none =>
      rw [colI_none h, ih]
      constructor
      · rintro ⟨m, h1, h2⟩; exact ⟨m, by omega, h2⟩
      · rintro ⟨m, h1, h2⟩
        by_cases e : m = n
        · subst e; rw [h] at h2; cases h2
        · exact ⟨m, by omega, h2⟩
theorem colI_asc {f : Nat → Option It} (hf : ∀ n x, f n = some x → x.id = n) : ∀ n, ((colI f n).map (·.id)).Pairwise (· < ·)
  | 0 => List.Pairwise.nil
  | n + 1 => by
    have ih := colI_asc hf n
    cases h : f n with
    | some y =>
      rw [colI_some h, List.map_append]
      refine List.pairwise_append.2 ⟨ih, by simp, fun a ha b hb => ?_⟩
      obtain ⟨x, hx, rfl⟩ := List.mem_map.1 ha
      obtain ⟨m, h1, h2⟩ := (colI_mem hf n x).1 hx
      simp only [List.map_cons, List.map_nil, List.mem_singleton] at hb
      rw [hb, hf n y h, hf m x h2]
      omega
    | none => rw [colI_none h]; exact ih
theorem colN_mem {p : Nat → Bool} : ∀ (n : Nat) (j : Int), j ∈ colN p n ↔ ∃ m : Nat, m < n ∧ p m = true ∧ j = m
  | 0, j => by simp [colN]
  | n + 1, j => by
    have ih := colN_mem (p := p) n j
    cases h : p n with
    | true =>
      rw [colN_true h, List.mem_append, ih, List.mem_singleton]
      constructor
      · rintro (⟨m, h1, h2⟩ | rfl)
        · exact ⟨m, by omega, h2⟩
        · exact ⟨n, by omega, h, rfl⟩
      · rintro ⟨m, h1, h2, h3⟩
        by_cases e : m = n
        · subst e; exact .inr h3
        · exact .inl ⟨m, by omega, h2, h3⟩
    | false =>
      rw [colN_false h, ih]
      constructor
      · rintro ⟨m, h1, h2⟩; exact ⟨m, by omega, h2⟩
      · rintro ⟨m, h1, h2, h3⟩
        by_cases e : m = n
        · subst e; rw [h] at h2; cases h2
        · exact ⟨m, by omega, h2, h3⟩
theorem colN_asc {p : Nat → Bool} : ∀ n, (colN p n).Pairwise (· < ·)
  | 0 => List.Pairwise.nil
  | n + 1 => by
    have ih := colN_asc (p := p) n
    cases h : p n with
    | true =>
      rw [colN_true h]
      refine List.pairwise_append.2 ⟨ih, by simp, fun a ha b hb => ?_⟩
      obtain ⟨m, h1, _, rfl⟩ := (colN_mem n a).1 ha
      rw [List.mem_singleton.1 hb]
      omega
    | false => rw [colN_false h]; exact ih
/-- ascending lists with the same members are the same -/
theorem asc_same {l k : List Int} (hl : l.Pairwise (· < ·)) (hk : k.Pairwise (· < ·)) (h : ∀ n, n ∈ l ↔ n ∈ k) : l = k :=
  ((List.perm_ext_iff_of_nodup (pair_ne hl) (pair_ne hk)).2 h).eq_of_pairwise (fun _ _ _ _ h1 h2 => by omega) hl hk
theorem asc_sameI {l k : List It} (hl : (l.map (·.id)).Pairwise (· < ·)) (hk : (k.map (·.id)).Pairwise (· < ·)) (h : ∀ x, x ∈ l ↔ x ∈ k) : l = k := by
  rw [List.pairwise_map] at hl hk
  exact ((List.perm_ext_iff_of_nodup (nd_of_ids (pair_ne (List.pairwise_map.2 hl))) (nd_of_ids (pair_ne (List.pairwise_map.2 hk)))).2 h).eq_of_pairwise (fun _ _ _ _ h1 h2 => by omega) hl hk
/-! Differ -/
def dfF (a b : List It) (n : Nat) : Option It := if ((getI b n).isSome && (!(getI a n).isSome || !decide (atI' a n = atI' b n))) = true then some (atI' b n) else none
def dgP (a b : List It) (n : Nat) : Bool := (getI a n).isSome && !(getI b n).isSome
theorem itemV_eq' (o : Option It) : itemV o = .tuple #[itV (o.getD zIt), .bool o.isSome] := by cases o <;> rfl
theorem c_rItemY (A : Option Addr) (n c : Nat) (l : List It) (id : Int) (w : World) (hn : n ≤ 9223372036854775807) (hr : SlR w w.heap.size 6 A n (l.flatMap cI)) :
    Calls Tryz.prog 43 #[.slice A n c, .int .i64 id] w fun e w' => e = .returned (.tuple #[itV (atI' l id), .bool (getI l id).isSome]) ∧ Below w.heap.size w w' := by
  have h := c_rItem A n c l id w hn hr
  rw [itemV_eq'] at h
  exact h
def DiffPost (a b : List It) (w : World) (e : Ending) (w' : World) : Prop :=
  Below w.heap.size w w' ∧ ((itsOk a && itsOk b) = false ∧ e = .returned (.tuple #[.slice none 0 0, .slice none 0 0]) ∨
    (itsOk a && itsOk b) = true ∧ ∃ v u, e = .returned (.tuple #[v, u]) ∧ w'.ownsRow w.heap.size 27 6 v (colI (dfF a b) 100).length ((colI (dfF a b) 100).flatMap cI) ∧ w'.ownsRow w.heap.size 3 1 u (colN (dgP a b) 100).length ((colN (dgP a b) 100).flatMap cN))
set_option linter.unusedSimpArgs false in
set_option maxRecDepth 100000 in
set_option maxHeartbeats 4000000 in
theorem c_rDiffer (A B : Option Addr) (n c m d : Nat) (a b : List It) (w : World) (hn : n ≤ 9223372036854775807) (hm : m ≤ 9223372036854775807) (hr : SlR w w.heap.size 6 A n (a.flatMap cI)) (hs : SlR w w.heap.size 6 B m (b.flatMap cI)) :
    Calls Tryz.prog 38 #[.slice A n c, .slice B m d] w (DiffPost a b w) := by
  obtain ⟨i0, hi, hz0, hz1, hz2⟩ := info_parts Tryz.infoItem
  obtain ⟨i1, hi1, hy0, hy1, hy2⟩ := info_parts Tryz.infoInt
  have HB := hide (And.intro hr hs)
  have hk1 := c_rProperItems A n c a w hn hr
  clear hr hs
  go_enter Tryz.func38, Tryz.ntmps38
  go_wp2_with fail
  refine hk1.mono ?_
  clear hk1
  rintro e w1 ⟨rfl, hb1⟩
  cases ha : itsOk a with
  | false =>
    have HE := hide (show (itsOk a && itsOk b) = false by rw [ha]; rfl)
    go_wp2_with fail
    go_ret2
    exact ⟨hb1, .inl ⟨HE.out, rfl⟩⟩
  | true =>
  have hk2 := c_rProperItems B m d b w1 hm (HB.out.2.to' hb1)
  have HA := hide ha
  clear ha
  go_wp2_with fail
  refine hk2.mono ?_
  clear hk2
  rintro e w2 ⟨rfl, hb2⟩
  have hb02 := bthen hb1 hb2
  cases hb : itsOk b with
  | false =>
    have HE := hide (show (itsOk a && itsOk b) = false by rw [hb, Bool.and_false])
    go_wp2_with fail
    go_ret2
    exact ⟨hb02, .inl ⟨HE.out, rfl⟩⟩
  | true =>
  have HE := hide (show (itsOk a && itsOk b) = true by rw [HA.out, hb]; rfl)
  have HW := hide hb02
  clear hb hb1 hb2 hb02
  go_wp2_with fail
  go_loopw [6, 7, 8] (fun v u j wr => ∃ k : Nat, k ≤ 100 ∧ j = .int .i64 k ∧ wr.ownsRow w2.heap.size 27 6 v (colI (dfF a b) k).length ((colI (dfF a b) k).flatMap cI) ∧ wr.ownsRow w2.heap.size 3 1 u (colN (dgP a b) k).length ((colN (dgP a b) k).flatMap cN) ∧ Below w2.heap.size w2 wr) (fun _ _ j _ => 100 - (intOf j).toNat)
  case atStart => exact ⟨0, by omega, rfl, World.ownsRow_nil _ _ _ _, World.ownsRow_nil _ _ _ _, Below.refl _ _⟩
  case round =>
    obtain ⟨k, hk, rfl, ho, hu, hbr⟩ := hrel
    by_cases hlt : k < 100
    · have hi1' := c_rItemY A n c a k wr hn (HB.out.1.to' (bthen HW.out hbr))
      have HO := hide (And.intro ho (And.intro hu hbr))
      clear ho hu hbr
      go_wp2_with fail
      refine hi1'.mono ?_
      clear hi1'
      rintro e w3 ⟨rfl, hb3⟩
      have HF : Hid (dfF a b k = if ((getI b k).isSome && (!(getI a k).isSome || !decide (atI' a k = atI' b k))) = true then some (atI' b k) else none) := hide rfl
      have HG : Hid (dgP a b k = ((getI a k).isSome && !(getI b k).isSome)) := hide rfl
      generalize atI' a (k : Int) = X at *
      generalize (getI a (k : Int)).isSome = bX at *
      have gX : Blk (w3.alloc (.cells #[.int .i64 X.id, .int .i64 X.kind, .int .i64 X.x, .int .i64 X.y, .string X.text, .int .i64 X.mod] 27)) w3.heap.size 27 (cI X) := Blk.new w3 27 (cI X)
      have hb34 := balloc (Below.refl w3.heap.size w3) (.cells #[.int .i64 X.id, .int .i64 X.kind, .int .i64 X.x, .int .i64 X.y, .string X.text, .int .i64 X.mod] 27)
      have HB4 := hide (And.intro (own_bel HO.out.1 (bthen hb3 hb34)) (And.intro (own_bel HO.out.2.1 (bthen hb3 hb34)) (bthen HO.out.2.2 (bthen hb3 hb34))))
      clear hb3 hb34
      go_upto_region 9 with (fail)
      generalize w3.alloc (.cells #[.int .i64 X.id, .int .i64 X.kind, .int .i64 X.x, .int .i64 X.y, .string X.text, .int .i64 X.mod] 27) = w4 at *
      generalize w3.heap.size = bx at *
      have HX := hide gX
      clear gX
      have hi2' := c_rItemY B m d b k w4 hm (HB.out.2.to' (bthen HW.out HB4.out.2.2))
      go_wp2_with fail
      refine hi2'.mono ?_
      clear hi2'
      rintro e w5 ⟨rfl, hb5⟩
      generalize atI' b (k : Int) = Y at *
      generalize (getI b (k : Int)).isSome = bY at *
      have gY : Blk (w5.alloc (.cells #[.int .i64 Y.id, .int .i64 Y.kind, .int .i64 Y.x, .int .i64 Y.y, .string Y.text, .int .i64 Y.mod] 27)) w5.heap.size 27 (cI Y) := Blk.new w5 27 (cI Y)
      have gX := (HX.out.below hb5 HX.out.lt).alloc (.cells #[.int .i64 Y.id, .int .i64 Y.kind, .int .i64 Y.x, .int .i64 Y.y, .string Y.text, .int .i64 Y.mod] 27)
      have hb56 := balloc (Below.refl w5.heap.size w5) (.cells #[.int .i64 Y.id, .int .i64 Y.kind, .int .i64 Y.x, .int .i64 Y.y, .string Y.text, .int .i64 Y.mod] 27)
      have HB6 := hide (And.intro (own_bel HB4.out.1 (bthen hb5 hb56)) (And.intro (own_bel HB4.out.2.1 (bthen hb5 hb56)) (bthen HB4.out.2.2 (bthen hb5 hb56))))
      clear hb5 hb56
      go_upto_region 10 with (fail)
      generalize w5.alloc (.cells #[.int .i64 Y.id, .int .i64 Y.kind, .int .i64 Y.x, .int .i64 Y.y, .string Y.text, .int .i64 Y.mod] 27) = w6 at *
      generalize w5.heap.size = by' at *
      obtain ⟨x0, x1, x2, x3, x4, x5⟩ := gX.allI
      obtain ⟨y0, y1, y2, y3, y4, y5⟩ := gY.allI
      have lx := gX.lt
      have ly := gY.lt
      have HS6 := hide (show w2.heap.size ≤ w6.heap.size from HB6.out.2.2.size)
      have hl1 := colI_len (dfF a b) k
      have hl2 := colN_len (dgP a b) k
      clear gX gY
      cases bY
      · cases bX
        · have HF1 := hide (colI_none (f := dfF a b) (n := k) (by rw [HF.out]; simp))
          have HG1 := hide (colN_false (p := dgP a b) (n := k) (by rw [HG.out]; simp))
          go_wp2_with fail
          go_roundw
          case rel => exact ⟨k + 1, by omega, by go_num, by rw [HF1.out]; exact HB6.out.1, by rw [HG1.out]; exact HB6.out.2.1, HB6.out.2.2⟩
          case measure => simp [intOf]; omega
        · have HF1 := hide (colI_none (f := dfF a b) (n := k) (by rw [HF.out]; simp))
          have HG1 := hide (colN_true (p := dgP a b) (n := k) (by rw [HG.out]; simp))
          generalize colI (dfF a b) k = P at *
          generalize colN (dgP a b) k = R at *
          have gA : SlR (w6.alloc (.cells (cN (k : Int)).toArray 3)) _ 1 (some ⟨w6.heap.size, 0, none⟩) 1 (cN (k : Int)) := slr_new _ _ rfl rfl
          go_wp2_with (at_builtin; refine wpList_append_sl (size := 1) rfl _ _ 30 rfl w2.heap.size 3 i1 (.int .i64 0) 8 Tryz.underlying30 hi1 hy0 hy1 hy2 rfl (by decide) _ R.length (R.flatMap cN) rfl (HB6.out.2.1.alloc _) 1 1 (cN (k : Int)) rfl gA (Below.refl _ _) (fun u hu => oneN [(k : Int)] u (by simpa using hu)) (by unfold maxLen; omega) (by omega) (by have := HS6.out; simp; omega) ?_; intro v6 w7 ho6 hg6 hor6)
          go_roundw
          case rel =>
            refine ⟨k + 1, by omega, by go_num, ?_, ?_, (balloc HB6.out.2.2 _).grown hg6 (by have := HS6.out; simp; omega) (fun g e => (own_lt HB6.out.2.1 g e).1)⟩
            · rw [HF1.out]
              exact own_two (HB6.out.1.alloc _) (HB6.out.2.1.alloc _) (by decide) hg6
            · rw [HG1.out, List.length_append, flatN_snoc]
              exact ho6
          case measure => simp [intOf]; omega
      · cases bX
        · have HF1 := hide (colI_some (f := dfF a b) (n := k) (x := Y) (by rw [HF.out]; simp))
          have HG1 := hide (colN_false (p := dgP a b) (n := k) (by rw [HG.out]; simp))
          generalize colI (dfF a b) k = P at *
          generalize colN (dgP a b) k = R at *
          have gA : SlR (w6.alloc (.cells (cI Y).toArray 27)) _ 6 (some ⟨w6.heap.size, 0, none⟩) 1 (cI Y) := slr_new _ _ rfl rfl
          go_wp2_with (at_builtin; refine wpList_append_sl (size := 6) rfl _ _ 29 rfl w2.heap.size 27 i0 zV 56 Tryz.underlying29 hi hz0 hz1 hz2 rfl (by decide) _ P.length (P.flatMap cI) rfl (HB6.out.1.alloc _) 1 1 (cI Y) rfl gA (Below.refl _ _) (fun u hu => oneI [Y] u (by simpa using hu)) (by unfold maxLen; omega) (by omega) (by have := HS6.out; simp; omega) ?_; intro v6 w7 ho6 hg6 hor6)
          go_roundw
          case rel =>
            refine ⟨k + 1, by omega, by go_num, ?_, ?_, (balloc HB6.out.2.2 _).grown hg6 (by have := HS6.out; simp; omega) (fun g e => (own_lt HB6.out.1 g e).1)⟩
            · rw [HF1.out, List.length_append, flatI_snoc]
              exact ho6
            · rw [HG1.out]
              exact own_two (HB6.out.2.1.alloc _) (HB6.out.1.alloc _) (by decide) hg6
          case measure => simp [intOf]; omega
        · by_cases he : X = Y
          · have hq : ∀ w, (binOp .neq 27 (itV X) (itV Y)).run Tryz.prog w = .ok (.bool false) w := fun w => by rw [neqIt w X Y]; simp [he]
            simp only [itV] at hq
            have HEq := hide he
            clear he
            have HF1 := hide (colI_none (f := dfF a b) (n := k) (by rw [HF.out]; simp [HEq.out]))
            have HG1 := hide (colN_false (p := dgP a b) (n := k) (by rw [HG.out]; simp))
            go_wp2_with fail
            go_roundw
            case rel => exact ⟨k + 1, by omega, by go_num, by rw [HF1.out]; exact HB6.out.1, by rw [HG1.out]; exact HB6.out.2.1, HB6.out.2.2⟩
            case measure => simp [intOf]; omega
          · have hq : ∀ w, (binOp .neq 27 (itV X) (itV Y)).run Tryz.prog w = .ok (.bool true) w := fun w => by rw [neqIt w X Y]; simp [he]
            simp only [itV] at hq
            have HEq := hide he
            clear he
            have HF1 := hide (colI_some (f := dfF a b) (n := k) (x := Y) (by rw [HF.out]; simp [HEq.out]))
            have HG1 := hide (colN_false (p := dgP a b) (n := k) (by rw [HG.out]; simp))
            generalize colI (dfF a b) k = P at *
            generalize colN (dgP a b) k = R at *
            have gA : SlR (w6.alloc (.cells (cI Y).toArray 27)) _ 6 (some ⟨w6.heap.size, 0, none⟩) 1 (cI Y) := slr_new _ _ rfl rfl
            go_wp2_with (at_builtin; refine wpList_append_sl (size := 6) rfl _ _ 29 rfl w2.heap.size 27 i0 zV 56 Tryz.underlying29 hi hz0 hz1 hz2 rfl (by decide) _ P.length (P.flatMap cI) rfl (HB6.out.1.alloc _) 1 1 (cI Y) rfl gA (Below.refl _ _) (fun u hu => oneI [Y] u (by simpa using hu)) (by unfold maxLen; omega) (by omega) (by have := HS6.out; simp; omega) ?_; intro v6 w7 ho6 hg6 hor6)
            go_roundw
            case rel =>
              refine ⟨k + 1, by omega, by go_num, ?_, ?_, (balloc HB6.out.2.2 _).grown hg6 (by have := HS6.out; simp; omega) (fun g e => (own_lt HB6.out.1 g e).1)⟩
              · rw [HF1.out, List.length_append, flatI_snoc]
                exact ho6
              · rw [HG1.out]
                exact own_two (HB6.out.2.1.alloc _) (HB6.out.1.alloc _) (by decide) hg6
            case measure => simp [intOf]; omega
    · obtain rfl : k = 100 := by omega
      have HO := hide (And.intro (own_base ho HW.out.size) (own_base hu HW.out.size))
      clear ho hu
      go_wp2_with fail
      go_ret2
      exact ⟨bthen HW.out hbr, .inr ⟨HE.out, _, _, rfl, HO.out.1, HO.out.2⟩⟩
end Go.Proofs.YtncdombfhcfobaaGreat
