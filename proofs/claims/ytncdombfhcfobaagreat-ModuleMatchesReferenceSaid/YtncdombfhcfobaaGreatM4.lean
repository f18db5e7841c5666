/- Contracts: ascending at ints and at modules; are items proper, is a module. -/
import Derived.Test.YtncdombfhcfobaaGreatM3
import Derived.Laws.EntriesVeiled
namespace Go.Proofs.YtncdombfhcfobaaGreat
open Go.RowKit Go.Shelf
theorem c_intID (s : Int) (w : World) : Calls Tryz.prog 56 #[.int .i64 s] w fun e w' => e = .returned (.int .i64 s) ∧ w = w' := by
  go_enter Tryz.func56, Tryz.ntmps56
  go_wp2
  go_ret
  exact ⟨rfl, rfl⟩
/-- a module as it lies in memory -/
structure MR where
  id : Int
  a : Option Addr
  n : Nat
  c : Nat
abbrev mrV (r : MR) : Value := .agg #[.int .i64 r.id, .slice r.a r.n r.c]
def cM (r : MR) : List Value := [.int .i64 r.id, .slice r.a r.n r.c]
theorem SlR.lenm {w : World} {B n : Nat} {A : Option Addr} {l : List MR} (h : SlR w B 2 A n (l.flatMap cM)) : l.length = n := by
  have := h.1
  rw [flat_len cM 2 (fun _ => rfl)] at this
  omega
theorem SlR.atM {w : World} {B n : Nat} {A : Option Addr} {l : List MR} {wr : World} (h : SlR w B 2 A n (l.flatMap cM)) (hb : Below B w wr) {k : Nat} (hk : k < l.length) :
    ∃ b off, A = some ⟨b, off, none⟩ ∧ b < B ∧ wr.cell? ⟨b, off + k * 2, none⟩ = some (.int .i64 l[k].id) ∧ wr.cell? ⟨b, off + k * 2 + 1, none⟩ = some (.slice l[k].a l[k].n l[k].c) := by
  obtain ⟨b, off, e, hbb, hc⟩ := h.2 (by have := h.lenm; omega)
  have g := flat_get cM 2 (fun _ => rfl) l k hk
  refine ⟨b, off, e, hbb, ?_, ?_⟩
  · exact (hb.cell (p := ⟨b, _, none⟩) hbb).trans (hc (k * 2) _ (g 0 (by omega)))
  · exact (hb.cell (p := ⟨b, _, none⟩) hbb).trans (hc (k * 2 + 1) _ (by simpa [cM] using g 1 (by omega)))
theorem SlR.bwN {w0 : World} {b off n k : Nat} {l : List Int} (h : SlR w0 w0.heap.size 1 (some ⟨b, off, none⟩) n (l.flatMap cN)) (hk : k < l.length) (x : BW w0) :
    x.val.cell? ⟨b, off + k, none⟩ = some (.int .i64 l[k]) := by
  obtain ⟨b', off', e, _, h0⟩ := h.atN x.ok hk
  cases e; exact h0
theorem SlR.bwM {w0 : World} {b off n k : Nat} {l : List MR} (h : SlR w0 w0.heap.size 2 (some ⟨b, off, none⟩) n (l.flatMap cM)) (hk : k < l.length) (x : BW w0) :
    x.val.cell? ⟨b, off + k * 2, none⟩ = some (.int .i64 l[k].id) ∧ x.val.cell? ⟨b, off + k * 2 + 1, none⟩ = some (.slice l[k].a l[k].n l[k].c) := by
  obtain ⟨b', off', e, _, h0⟩ := h.atM x.ok hk
  cases e; exact h0
theorem split2 {α : Type} {a b : α → Prop} (h : ∀ x, a x ∧ b x) : (∀ x, a x) ∧ (∀ x, b x) := ⟨fun x => (h x).1, fun x => (h x).2⟩
theorem c_modID (s : MR) (w : World) : Calls Tryz.prog 45 #[mrV s] w fun e w' => e = .returned (.int .i64 s.id) ∧ Below w.heap.size w w' := by
  unfold mrV
  go_enter Tryz.func45, Tryz.ntmps45
  go_wp2
  go_ret
  exact ⟨rfl, balloc (Below.refl _ _) _⟩
set_option maxRecDepth 100000 in
set_option maxHeartbeats 1000000 in
theorem c_ascInt (A : Option Addr) (n c : Nat) (lo hi p0 : Int) (l : List Int) (w : World) (hn : n ≤ 9223372036854775807) (hp0 : p0 < lo) (hr : SlR w w.heap.size 1 A n (l.flatMap cN)) :
    Calls Tryz.prog 55 #[.slice A n c, .int .i64 lo, .int .i64 hi, .func (.func 56) #[] #[]] w fun e w' => e = .returned (.bool (ascB lo hi p0 l)) ∧ Below w.heap.size w w' := by
  have hl := hr.lenN
  have hids : l.length = n := hl
  go_enter Tryz.func55, Tryz.ntmps55
  go_wp2
  go_loopw [9, 10, 13] (fun s9 s10 i wr => ∃ k : Nat, k ≤ n ∧ i = .int .i64 k ∧ AscAt lo hi p0 l k ∧ Below w.heap.size w wr) (fun _ _ i _ => n - (intOf i).toNat)
  case atStart => exact ⟨0, Nat.zero_le _, rfl, AscAt.start _ _ _ _, Below.refl _ _⟩
  case round =>
    obtain ⟨k, hk, rfl, ha, hb⟩ := hrel
    have HL := hide (And.intro hl (And.intro hids ha))
    by_cases hlt : k < n
    · have hkl : k < l.length := by omega
      have hki : k < l.length := by omega
      have hget : l[k] = l[k] := rfl
      have hr' := (hr.to' hb)
      obtain ⟨b, off, rfl, hbb, hx0⟩ := hr'.atN (Below.refl _ _) hkl
      have hlt' : (k : Int) < (n : Int) := by omega
      have hwB := hb.size
      have hBw := hb
      have HR := hide hr'
      clear hr hr'
      cases hin : inB l[k] lo hi with
      | false =>
        have HI := hide (ha.out hki (by rw [hget]; exact hin))
        have HN := hide hin
        clear hl hids ha hget hin
        go_wp2_with fail
        refine wp_region_bw wr (Below.refl _ _) (by kernel_rfl) (by kernel_rfl) ?_
        repeat (go_big_quiet_step ((first | (go_at_call 56; exact bw_same (c_intID _ _)) | (go_at_call 52; exact bw_same (c_isInv HN.out _)))))
        refine wpQuiet_nil ?_
        intro w5 hb5
        go_wp2_with fail
        go_ret
        exact ⟨ret_bool HI.out.symm, bthen hBw hb5⟩
      | true =>
        have HN := hide hin
        rcases Nat.eq_zero_or_pos k with h0 | h0
        · have hd0 : decide (0 < k) = false := by simp [h0]
          have HI := hide (ha.next hki (by rw [hget]; exact hin) hp0 (fun h => absurd h (by omega)))
          have H0 := hide h0
          clear hl hids ha hget hin h0
          go_wp2_with fail
          refine wp_region_bw wr (Below.refl _ _) (by kernel_rfl) (by kernel_rfl) ?_
          repeat (go_big_quiet_step ((first | (go_at_call 56; exact bw_same (c_intID _ _)) | (go_at_call 52; exact bw_same (c_isInv HN.out _)))))
          refine wpQuiet_nil ?_
          intro w5 hb5
          go_wp2_with fail
          go_roundw
          case rel => exact ⟨k + 1, by omega, by go_num, HI.out, bthen hBw hb5⟩
          case measure => simp [intOf]; omega
        · have hk1 : k - 1 < l.length := by omega
          have fP := fun x => HR.out.bwN hk1 x
          have hget1 : l[k - 1] = l[k - 1] := rfl
          obtain ⟨j, rfl⟩ : ∃ j, k = j + 1 := ⟨k - 1, by omega⟩
          simp only [Nat.add_sub_cancel] at fP hget1
          have hsub : IntKind.i64.wrap (((j + 1 : Nat) : Int) - 1) = (j : Int) := by rw [IntWalk.i64_in _ (by omega)]; omega
          have hj0 : (0 : Int) ≤ (j : Int) := by omega
          have hjn : (j : Int) < (n : Int) := by omega
          have htn : ((j : Int)).toNat = j := by omega
          by_cases hle : l[j + 1] ≤ l[j]
          · have HI := hide (ha.low hki h0 (by simpa using hle))
            clear hl hids ha hget hin hget1
            go_wp2_with fail
            refine wp_region_bw wr (Below.refl _ _) (by kernel_rfl) (by kernel_rfl) ?_
            repeat (go_big_quiet_step ((first | (go_at_call 56; exact bw_same (c_intID _ _)) | (go_at_call 52; exact bw_same (c_isInv HN.out _)))))
            refine wpQuiet_nil ?_
            intro w5 hb5
            go_wp2_with fail
            go_ret
            exact ⟨ret_bool HI.out.symm, bthen hBw hb5⟩
          · have hle' : decide (l[j + 1] ≤ l[j]) = false := by simpa using hle
            have HI := hide (ha.next hki (by rw [hget]; exact hin) hp0 (fun _ => by simpa using hle))
            clear hl hids ha hget hin hget1 hle
            go_wp2_with fail
            refine wp_region_bw wr (Below.refl _ _) (by kernel_rfl) (by kernel_rfl) ?_
            repeat (go_big_quiet_step ((first | (go_at_call 56; exact bw_same (c_intID _ _)) | (go_at_call 52; exact bw_same (c_isInv HN.out _)))))
            refine wpQuiet_nil ?_
            intro w5 hb5
            go_wp2_with fail
            go_roundw
            case rel => exact ⟨j + 1 + 1, by omega, by go_num, HI.out, bthen hBw hb5⟩
            case measure => simp [intOf]; omega
    · have HI := hide (ha.done (by omega))
      clear hr hl hids ha
      go_wp2_with fail
      go_ret
      exact ⟨ret_bool HI.out.symm, hb⟩
set_option maxRecDepth 100000 in
set_option maxHeartbeats 1000000 in
theorem c_ascMod (A : Option Addr) (n c : Nat) (lo hi p0 : Int) (l : List MR) (w : World) (hn : n ≤ 9223372036854775807) (hp0 : p0 < lo) (hr : SlR w w.heap.size 2 A n (l.flatMap cM)) :
    Calls Tryz.prog 44 #[.slice A n c, .int .i64 lo, .int .i64 hi, .func (.func 45) #[] #[]] w fun e w' => e = .returned (.bool (ascB lo hi p0 (l.map (·.id)))) ∧ Below w.heap.size w w' := by
  have hl := hr.lenm
  have hids : (l.map (·.id)).length = n := by simpa using hl
  go_enter Tryz.func44, Tryz.ntmps44
  go_wp2
  go_loopw [9, 10, 13] (fun s9 s10 i wr => ∃ k : Nat, k ≤ n ∧ i = .int .i64 k ∧ AscAt lo hi p0 (l.map (·.id)) k ∧ Below w.heap.size w wr) (fun _ _ i _ => n - (intOf i).toNat)
  case atStart => exact ⟨0, Nat.zero_le _, rfl, AscAt.start _ _ _ _, Below.refl _ _⟩
  case round =>
    obtain ⟨k, hk, rfl, ha, hb⟩ := hrel
    have HL := hide (And.intro hl (And.intro hids ha))
    by_cases hlt : k < n
    · have hkl : k < l.length := by omega
      have hki : k < (l.map (·.id)).length := by omega
      have hget : (l.map (·.id))[k] = l[k].id := by simp
      have hr' := (hr.to' hb)
      obtain ⟨b, off, rfl, hbb, hx0, hx1⟩ := hr'.atM (Below.refl _ _) hkl
      have hlt' : (k : Int) < (n : Int) := by omega
      have hB1 := balloc hb (.cells (cM l[k]).toArray 37)
      have hrb := hr'.to' (balloc (Below.refl wr.heap.size wr) (.cells (cM l[k]).toArray 37))
      have g0 := Blk.new wr 37 (cM l[k])
      have hwB := hb.size
      obtain ⟨w0, hw0⟩ : ∃ w0, wr.alloc (.cells #[.int .i64 l[k].id, .slice l[k].a l[k].n l[k].c] 37) = w0 := ⟨_, rfl⟩
      have hz0 : w0.heap.size = wr.heap.size + 1 := by rw [← hw0]; simp
      have hBw : Below w.heap.size w w0 := by rw [← hw0]; exact hB1
      have hrb : SlR w0 w0.heap.size 2 (some ⟨b, off, none⟩) n (l.flatMap cM) := by rw [← hw0]; exact hrb
      have g0 : Blk w0 wr.heap.size 37 (cM l[k]) := by rw [← hw0]; exact g0
      have HW := hide hw0
      have fI : ∀ x : BW w0, x.val.cell? ⟨wr.heap.size, 0, none⟩ = some (.int .i64 l[k].id) ∧ x.val.cell? ⟨wr.heap.size, 1, none⟩ = some (.slice l[k].a l[k].n l[k].c) := fun x => ⟨(g0.below x.ok (by omega)).cell 0, (g0.below x.ok (by omega)).cell 1⟩
      have HR := hide hrb
      clear hr hr' g0 hw0 hrb
      obtain ⟨fI0, fI1⟩ := split2 fI
      clear fI
      cases hin : inB l[k].id lo hi with
      | false =>
        have HI := hide (ha.out hki (by rw [hget]; exact hin))
        have HN := hide hin
        clear hl hids ha hget hin
        go_wp2_with fail
        try rw [HW.out]
        refine wp_region_bw w0 (Below.refl _ _) (by kernel_rfl) (by kernel_rfl) ?_
        repeat (go_big_quiet_step ((first | (go_at_call 45; exact bw_call (c_modID _ _)) | (go_at_call 52; exact bw_same (c_isInv HN.out _)))))
        refine wpQuiet_nil ?_
        intro w5 hb5
        go_wp2_with fail
        go_ret
        exact ⟨ret_bool HI.out.symm, bthen hBw hb5⟩
      | true =>
        have HN := hide hin
        rcases Nat.eq_zero_or_pos k with h0 | h0
        · have hd0 : decide (0 < k) = false := by simp [h0]
          have HI := hide (ha.next hki (by rw [hget]; exact hin) hp0 (fun h => absurd h (by omega)))
          have H0 := hide h0
          clear hl hids ha hget hin h0
          go_wp2_with fail
          try rw [HW.out]
          refine wp_region_bw w0 (Below.refl _ _) (by kernel_rfl) (by kernel_rfl) ?_
          repeat (go_big_quiet_step ((first | (go_at_call 45; exact bw_call (c_modID _ _)) | (go_at_call 52; exact bw_same (c_isInv HN.out _)))))
          refine wpQuiet_nil ?_
          intro w5 hb5
          go_wp2_with fail
          go_roundw
          case rel => exact ⟨k + 1, by omega, by go_num, HI.out, bthen hBw hb5⟩
          case measure => simp [intOf]; omega
        · have hk1 : k - 1 < l.length := by omega
          have fP := fun x => HR.out.bwM hk1 x
          have hget1 : (l.map (·.id))[k - 1] = l[k - 1].id := by simp
          obtain ⟨j, rfl⟩ : ∃ j, k = j + 1 := ⟨k - 1, by omega⟩
          simp only [Nat.add_sub_cancel] at fP hget1
          obtain ⟨fP0, fP1⟩ := split2 fP
          clear fP
          have hsub : IntKind.i64.wrap (((j + 1 : Nat) : Int) - 1) = (j : Int) := by rw [IntWalk.i64_in _ (by omega)]; omega
          have hj0 : (0 : Int) ≤ (j : Int) := by omega
          have hjn : (j : Int) < (n : Int) := by omega
          have htn : ((j : Int)).toNat = j := by omega
          by_cases hle : l[j + 1].id ≤ l[j].id
          · have HI := hide (ha.low hki h0 (by simpa using hle))
            clear hl hids ha hget hin hget1
            go_wp2_with fail
            try rw [HW.out]
            refine wp_region_bw w0 (Below.refl _ _) (by kernel_rfl) (by kernel_rfl) ?_
            repeat (go_big_quiet_step ((first | (go_at_call 45; exact bw_call (c_modID _ _)) | (go_at_call 52; exact bw_same (c_isInv HN.out _)))))
            refine wpQuiet_nil ?_
            intro w5 hb5
            go_wp2_with fail
            go_ret
            exact ⟨ret_bool HI.out.symm, bthen hBw hb5⟩
          · have hle' : decide (l[j + 1].id ≤ l[j].id) = false := by simpa using hle
            have HI := hide (ha.next hki (by rw [hget]; exact hin) hp0 (fun _ => by simpa using hle))
            clear hl hids ha hget hin hget1 hle
            go_wp2_with fail
            rw [HW.out]
            refine wp_region_bw w0 (Below.refl _ _) (by kernel_rfl) (by kernel_rfl) ?_
            repeat (go_big_quiet_step ((first | (go_at_call 45; exact bw_call (c_modID _ _)) | (go_at_call 52; exact bw_same (c_isInv HN.out _)))))
            refine wpQuiet_nil ?_
            intro w5 hb5
            go_wp2_with fail
            go_roundw
            case rel => exact ⟨j + 1 + 1, by omega, by go_num, HI.out, bthen hBw hb5⟩
            case measure => simp [intOf]; omega
    · have HI := hide (ha.done (by omega))
      clear hr hl hids ha
      go_wp2_with fail
      go_ret
      exact ⟨ret_bool HI.out.symm, hb⟩
/-- 'not proper', as a predicate on items -/
theorem pi_itemBad (g : Nat) (w : World) (hg : w.cell? ⟨g, 0, none⟩ = some (.func (.func 75) #[] #[])) : PI Tryz.prog 78 #[.pointer (some ⟨g, 0, none⟩)] (fun s => !itOk s) w := fun W s hb => by
  have hlt := World.block_lt_of_cell? w _ hg
  simp only [] at hlt
  have hc : W.cell? ⟨g, 0, none⟩ = some (.func (.func 75) #[] #[]) := (hb.cell (p := ⟨g, 0, none⟩) hlt).trans hg
  have hgW : g < W.heap.size := Nat.lt_of_lt_of_le hlt hb.size
  clear hg
  show Calls _ _ #[itV s, .pointer (some ⟨g, 0, none⟩)] W _
  go_enter Tryz.func78, Tryz.ntmps78
  go_wp2_with (go_at_call 75; refine (c_itemOk _ _).mono ?_; rintro e w' ⟨rfl, hb'⟩)
  go_ret
  exact ⟨rfl, hb.trans (((Below.refl _ W).alloc (Nat.le_refl _) _).trans (hb'.mono (by simp)) |>.mono hb.size)⟩
theorem c_ascItemv {lo hi p0 : Int} {l : List It} {b : Bool} (h : ascB lo hi p0 (l.map (·.id)) = b) (A : Option Addr) (n c : Nat) (w : World) (hn : n ≤ 9223372036854775807) (hp0 : p0 < lo) (hr : SlR w w.heap.size 6 A n (l.flatMap cI)) :
    Calls Tryz.prog 76 #[.slice A n c, .int .i64 lo, .int .i64 hi, .func (.func 77) #[] #[]] w fun e w' => e = .returned (.bool b) ∧ Below w.heap.size w w' := by
  subst h; exact c_ascItem A n c lo hi p0 l w hn hp0 hr
theorem all_any (l : List It) : (!l.any fun s => !itOk s) = l.all itOk := by rw [List.all_eq_not_any_not]
set_option maxHeartbeats 1000000 in
theorem c_items (A : Option Addr) (n c : Nat) (l : List It) (w : World) (hn : n ≤ 9223372036854775807) (hr : SlR w w.heap.size 6 A n (l.flatMap cI)) :
    Calls Tryz.prog 54 #[.slice A n c] w fun e w' => e = .returned (.bool (itsOk l)) ∧ Below w.heap.size w w' := by
  have hl := hr.lenI
  have eg : ∀ args w, (callFunc 78 args).run Tryz.prog w = .ok (.enter 78 args) w := enters_of Tryz.func78 (by kernel_rfl) rfl
  have hr1 := hr.to' (balloc (Below.refl _ _) (.cells #[.func (.func 75) #[] #[]] 92))
  have g1 := Blk.new w 92 [.func (.func 75) #[] #[]]
  by_cases h12 : n ≤ 12
  · have hd : decide ((n : Int) ≤ 12) = true := by simp; omega
    cases hasc : ascB 0 99 (-1) (l.map (·.id)) with
    | false =>
      have HE := hide (show itsOk l = false by unfold itsOk; rw [hasc]; simp)
      have HA := hide hasc
      clear hasc hl
      go_enter Tryz.func54, Tryz.ntmps54
      go_wp2_with (go_at_call 76; refine (c_ascItemv HA.out A n c _ hn (by omega) hr1).mono ?_; rintro e w1 ⟨rfl, hb1⟩)
      go_ret
      exact ⟨ret_bool HE.out.symm, bthen (balloc (Below.refl _ _) _) hb1⟩
    | true =>
      have HE := hide (show itsOk l = !(l.any fun s => !itOk s) by unfold itsOk; rw [hasc, all_any, hl]; simp [h12])
      have HA := hide hasc
      clear hasc hl
      go_enter Tryz.func54, Tryz.ntmps54
      go_wp2_with (first | (go_at_call 76; refine (c_ascItemv HA.out A n c _ hn (by omega) hr1).mono ?_; rintro e w1 ⟨rfl, hb1⟩; have hr2 := hr1.to' hb1; have hg2 := (g1.below hb1 g1.lt).all1.1) | (go_at_call 49; refine (c_contItem (fun s => !itOk s) 78 #[.pointer (some ⟨w.heap.size, 0, none⟩)] eg A n c l _ hn (pi_itemBad _ _ hg2) hr2).mono ?_; rintro e w2 ⟨rfl, hb2⟩))
      go_ret
      exact ⟨ret_bool HE.out.symm, bthen (bthen (balloc (Below.refl _ _) _) hb1) hb2⟩
  · have hd : decide ((n : Int) ≤ 12) = false := by simp; omega
    have HE := hide (show itsOk l = false by unfold itsOk; rw [hl]; simp [h12])
    clear hl
    go_enter Tryz.func54, Tryz.ntmps54
    go_wp2
    go_ret
    exact ⟨ret_bool HE.out.symm, balloc (Below.refl _ _) _⟩
end Go.Proofs.YtncdombfhcfobaaGreat
