/- Contracts: ascending at items, at ints; are items proper. -/
import Derived.Test.YtncdombfhcfobaaGreatM2
import Derived.IntWalk
namespace Go.Proofs.YtncdombfhcfobaaGreat
open Go.RowKit Go.Shelf
def pvB (p0 : Int) (ids : List Int) (k : Nat) : Int := if k = 0 then p0 else ids.getD (k - 1) 0
theorem asc_step (lo hi p0 : Int) (ids : List Int) (k : Nat) (hk : k < ids.length) : ascB lo hi (pvB p0 ids k) (ids.drop k) = (inB ids[k] lo hi && decide (pvB p0 ids k < ids[k]) && ascB lo hi (pvB p0 ids (k + 1)) (ids.drop (k + 1))) := by
  have hd : ids.drop k = ids[k] :: ids.drop (k + 1) := List.drop_eq_getElem_cons hk
  have hp : pvB p0 ids (k + 1) = ids[k] := by simp [pvB, hk]
  rw [hd, hp, ascB]
theorem pv_succ (p0 : Int) (ids : List Int) (k : Nat) (h0 : 0 < k) (hk : k - 1 < ids.length) : pvB p0 ids k = ids[k - 1] := by
  simp [pvB, Nat.ne_of_gt h0, List.getD, hk]
theorem asc_end (lo hi p : Int) (ids : List Int) (k : Nat) (hk : ids.length ≤ k) : ascB lo hi p (ids.drop k) = true := by
  rw [List.drop_eq_nil_of_le hk]; rfl
/-- what the walk knows of round k -/
def AscAt (lo hi p0 : Int) (ids : List Int) (k : Nat) : Prop := ascB lo hi p0 ids = ascB lo hi (pvB p0 ids k) (ids.drop k)
theorem AscAt.start (lo hi p0 : Int) (ids : List Int) : AscAt lo hi p0 ids 0 := by simp [AscAt, pvB]
theorem AscAt.out {lo hi p0 : Int} {ids : List Int} {k : Nat} (h : AscAt lo hi p0 ids k) (hk : k < ids.length) (hn : inB ids[k] lo hi = false) : ascB lo hi p0 ids = false := by
  rw [h, asc_step lo hi p0 ids k hk, hn]; rfl
theorem AscAt.low {lo hi p0 : Int} {ids : List Int} {k : Nat} (h : AscAt lo hi p0 ids k) (hk : k < ids.length) (h0 : 0 < k) (hn : ids[k] ≤ ids[k - 1]) : ascB lo hi p0 ids = false := by
  rw [h, asc_step lo hi p0 ids k hk, pv_succ p0 ids k h0 (by omega)]
  simp; intro _ h; omega
theorem AscAt.next {lo hi p0 : Int} {ids : List Int} {k : Nat} (h : AscAt lo hi p0 ids k) (hk : k < ids.length) (hin : inB ids[k] lo hi = true) (hp : p0 < lo) (hn : ∀ _ : 0 < k, ids[k - 1] < ids[k]) : AscAt lo hi p0 ids (k + 1) := by
  unfold AscAt
  rw [h, asc_step lo hi p0 ids k hk, hin]
  have hd : decide (pvB p0 ids k < ids[k]) = true := by
    rw [decide_eq_true_eq]
    rcases Nat.eq_zero_or_pos k with h0 | h0
    · subst h0
      have := (inB_iff.1 hin).1
      simp only [pvB, if_true]; omega
    · rw [pv_succ p0 ids k h0 (by omega)]; exact hn h0
  rw [hd]; simp
theorem AscAt.done {lo hi p0 : Int} {ids : List Int} {k : Nat} (h : AscAt lo hi p0 ids k) (hk : ids.length ≤ k) : ascB lo hi p0 ids = true := by
  rw [h, asc_end lo hi _ ids k hk]
theorem SlR.bwI {w0 : World} {b off n k : Nat} {l : List It} (h : SlR w0 w0.heap.size 6 (some ⟨b, off, none⟩) n (l.flatMap cI)) (hk : k < l.length) (x : BW w0) :
    x.val.cell? ⟨b, off + k * 6, none⟩ = some (.int .i64 l[k].id) ∧ x.val.cell? ⟨b, off + k * 6 + 1, none⟩ = some (.int .i64 l[k].kind) ∧ x.val.cell? ⟨b, off + k * 6 + 2, none⟩ = some (.int .i64 l[k].x) ∧
      x.val.cell? ⟨b, off + k * 6 + 3, none⟩ = some (.int .i64 l[k].y) ∧ x.val.cell? ⟨b, off + k * 6 + 4, none⟩ = some (.string l[k].text) ∧ x.val.cell? ⟨b, off + k * 6 + 5, none⟩ = some (.int .i64 l[k].mod) := by
  obtain ⟨b', off', e, _, h0⟩ := h.atI x.ok hk
  cases e; exact h0
theorem split6 {α : Type} {a b c d e f : α → Prop} (h : ∀ x, a x ∧ b x ∧ c x ∧ d x ∧ e x ∧ f x) : (∀ x, a x) ∧ (∀ x, b x) ∧ (∀ x, c x) ∧ (∀ x, d x) ∧ (∀ x, e x) ∧ (∀ x, f x) :=
  ⟨fun x => (h x).1, fun x => (h x).2.1, fun x => (h x).2.2.1, fun x => (h x).2.2.2.1, fun x => (h x).2.2.2.2.1, fun x => (h x).2.2.2.2.2⟩
set_option maxRecDepth 100000 in
set_option maxHeartbeats 1000000 in
theorem c_ascItem (A : Option Addr) (n c : Nat) (lo hi p0 : Int) (l : List It) (w : World) (hn : n ≤ 9223372036854775807) (hp0 : p0 < lo) (hr : SlR w w.heap.size 6 A n (l.flatMap cI)) :
    Calls Tryz.prog 76 #[.slice A n c, .int .i64 lo, .int .i64 hi, .func (.func 77) #[] #[]] w fun e w' => e = .returned (.bool (ascB lo hi p0 (l.map (·.id)))) ∧ Below w.heap.size w w' := by
  have hl := hr.lenI
  have hids : (l.map (·.id)).length = n := by simpa using hl
  go_enter Tryz.func76, Tryz.ntmps76
  go_wp2
  go_loopw [9, 10, 13] (fun s9 s10 i wr => ∃ k : Nat, k ≤ n ∧ i = .int .i64 k ∧ AscAt lo hi p0 (l.map (·.id)) k ∧ Below w.heap.size w wr) (fun _ _ i _ => n - (intOf i).toNat)
  case atStart => exact ⟨0, Nat.zero_le _, rfl, AscAt.start _ _ _ _, Below.refl _ _⟩
  case round =>
    obtain ⟨k, hk, rfl, ha, hb⟩ := hrel
    have HL := hide (And.intro hl (And.intro hids ha))
    by_cases hlt : k < n
    · have hkl : k < l.length := by omega
      have hki : k < (l.map (·.id)).length := by omega
      have hget : (l.map (·.id))[k] = l[k].id := by simp
      have hr' := (hr.to' hb)
      obtain ⟨b, off, rfl, hbb, hx0, hx1, hx2, hx3, hx4, hx5⟩ := hr'.atI (Below.refl _ _) hkl
      have hlt' : (k : Int) < (n : Int) := by omega
      have hB1 := balloc hb (.cells (cI l[k]).toArray 27)
      have hrb := hr'.to' (balloc (Below.refl wr.heap.size wr) (.cells (cI l[k]).toArray 27))
      have g0 := Blk.new wr 27 (cI l[k])
      have hwB := hb.size
      obtain ⟨w0, hw0⟩ : ∃ w0, wr.alloc (.cells #[.int .i64 l[k].id, .int .i64 l[k].kind, .int .i64 l[k].x, .int .i64 l[k].y, .string l[k].text, .int .i64 l[k].mod] 27) = w0 := ⟨_, rfl⟩
      have hz0 : w0.heap.size = wr.heap.size + 1 := by rw [← hw0]; simp
      have hBw : Below w.heap.size w w0 := by rw [← hw0]; exact hB1
      have hrb : SlR w0 w0.heap.size 6 (some ⟨b, off, none⟩) n (l.flatMap cI) := by rw [← hw0]; exact hrb
      have g0 : Blk w0 wr.heap.size 27 (cI l[k]) := by rw [← hw0]; exact g0
      have HW := hide hw0
      have fI : ∀ x : BW w0, x.val.cell? ⟨wr.heap.size, 0, none⟩ = some (.int .i64 l[k].id) ∧ x.val.cell? ⟨wr.heap.size, 1, none⟩ = some (.int .i64 l[k].kind) ∧ x.val.cell? ⟨wr.heap.size, 2, none⟩ = some (.int .i64 l[k].x) ∧
          x.val.cell? ⟨wr.heap.size, 3, none⟩ = some (.int .i64 l[k].y) ∧ x.val.cell? ⟨wr.heap.size, 4, none⟩ = some (.string l[k].text) ∧ x.val.cell? ⟨wr.heap.size, 5, none⟩ = some (.int .i64 l[k].mod) := fun x => (g0.below x.ok (by omega)).allI
      have HR := hide hrb
      clear hr hr' g0 hw0 hrb
      obtain ⟨fI0, fI1, fI2, fI3, fI4, fI5⟩ := split6 fI
      clear fI
      cases hin : inB l[k].id lo hi with
      | false =>
        have HI := hide (ha.out hki (by rw [hget]; exact hin))
        have HN := hide hin
        clear hl hids ha hget hin
        go_wp2_with fail
        try rw [HW.out]
        refine wp_region_bw w0 (Below.refl _ _) (by kernel_rfl) (by kernel_rfl) ?_
        repeat (go_big_quiet_step ((first | (go_at_call 77; exact bw_call (c_itemID _ _)) | (go_at_call 52; exact bw_same (c_isInv HN.out _)))))
        refine wpQuiet_nil ?_
        intro w5 hb5
        go_wp2_with fail
        go_ret
        exact ⟨ret_bool HI.out.symm, bthen hBw hb5⟩
      | true =>
        have HN := hide hin
        rcases Nat.eq_zero_or_pos k with h0 | h0
        · have hd0 : decide (0 < k) = false := by simp [h0]
          have HI := hide (ha.next hki (by rw [hget]; exact hin) hp0 (fun h => absurd h (by omega)))
          have H0 := hide h0
          clear hl hids ha hget hin h0
          go_wp2_with fail
          try rw [HW.out]
          refine wp_region_bw w0 (Below.refl _ _) (by kernel_rfl) (by kernel_rfl) ?_
          repeat (go_big_quiet_step ((first | (go_at_call 77; exact bw_call (c_itemID _ _)) | (go_at_call 52; exact bw_same (c_isInv HN.out _)))))
          refine wpQuiet_nil ?_
          intro w5 hb5
          go_wp2_with fail
          go_roundw
          case rel => exact ⟨k + 1, by omega, by go_num, HI.out, bthen hBw hb5⟩
          case measure => simp [intOf]; omega
        · have hk1 : k - 1 < l.length := by omega
          have fP := fun x => HR.out.bwI hk1 x
          have hget1 : (l.map (·.id))[k - 1] = l[k - 1].id := by simp
          obtain ⟨j, rfl⟩ : ∃ j, k = j + 1 := ⟨k - 1, by omega⟩
          simp only [Nat.add_sub_cancel] at fP hget1
          obtain ⟨fP0, fP1, fP2, fP3, fP4, fP5⟩ := split6 fP
          clear fP
          have hsub : IntKind.i64.wrap (((j + 1 : Nat) : Int) - 1) = (j : Int) := by rw [IntWalk.i64_in _ (by omega)]; omega
          have hj0 : (0 : Int) ≤ (j : Int) := by omega
          have hjn : (j : Int) < (n : Int) := by omega
          have htn : ((j : Int)).toNat = j := by omega
          by_cases hle : l[j + 1].id ≤ l[j].id
          · have HI := hide (ha.low hki h0 (by simpa using hle))
            clear hl hids ha hget hin hget1
            go_wp2_with fail
            try rw [HW.out]
            refine wp_region_bw w0 (Below.refl _ _) (by kernel_rfl) (by kernel_rfl) ?_
            repeat (go_big_quiet_step ((first | (go_at_call 77; exact bw_call (c_itemID _ _)) | (go_at_call 52; exact bw_same (c_isInv HN.out _)))))
            refine wpQuiet_nil ?_
            intro w5 hb5
            go_wp2_with fail
            go_ret
            exact ⟨ret_bool HI.out.symm, bthen hBw hb5⟩
          · have hle' : decide (l[j + 1].id ≤ l[j].id) = false := by simpa using hle
            have HI := hide (ha.next hki (by rw [hget]; exact hin) hp0 (fun _ => by simpa using hle))
            clear hl hids ha hget hin hget1 hle
            go_wp2_with fail
            rw [HW.out]
            refine wp_region_bw w0 (Below.refl _ _) (by kernel_rfl) (by kernel_rfl) ?_
            repeat (go_big_quiet_step ((first | (go_at_call 77; exact bw_call (c_itemID _ _)) | (go_at_call 52; exact bw_same (c_isInv HN.out _)))))
            refine wpQuiet_nil ?_
            intro w5 hb5
            go_wp2_with fail
            go_roundw
            case rel => exact ⟨j + 1 + 1, by omega, by go_num, HI.out, bthen hBw hb5⟩
            case measure => simp [intOf]; omega
    · have HI := hide (ha.done (by omega))
      clear hr hl hids ha
      go_wp2_with fail
      go_ret
      exact ⟨ret_bool HI.out.symm, hb⟩
end Go.Proofs.YtncdombfhcfobaaGreat
