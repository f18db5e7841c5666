/- Contracts: ValidCopy, Items. -/
import Derived.Test.YtncdombfhcfobaaM13
namespace Go.Proofs.Ytncdombfhcfobaa
open Go.RowKit
def validCopyB (ms : List Mo) (c : Cp) : Bool := validB ms && cpOk c && (findM ms c.mod).isSome && knownB ms c.changes
set_option maxRecDepth 100000 in
set_option maxHeartbeats 2000000 in
theorem c_ValidCopy (A : Option Addr) (N cc : Nat) (rows : List MR) (ms : List Mo) (r : CR) (c : Cp) (w : World) (hN : N ≤ 9223372036854775807) (hr : SlR w w.heap.size 2 A N (rows.flatMap cM)) (hm : Mods w rows ms) (h : CpR w r c) :
    Calls Try.prog 32 #[.slice A N cc, crV r] w fun e w' => e = .returned (.bool (validCopyB ms c)) ∧ Below w.heap.size w w' := by
  have hb0 := balloc (Below.refl w.heap.size w) (.cells #[.int .i64 r.code, .int .i64 r.mod, .int .i64 r.x, .int .i64 r.y, .slice r.a r.n r.c, .slice r.a2 r.n2 r.c2] 45)
  have gC := Blk.new w 45 (cC r)
  have hk0 := c_find A N cc rows r.mod _ hN (hr.to' hb0)
  obtain ⟨q, bq, hq1, hqb, hq2, hq3, hq4⟩ := hm.itemsOf r.mod
  rw [hq1] at hk0
  have e2 := h.1.2.1
  rw [e2] at hqb
  have HQ := hide hqb
  have hr0 := hr.to' hb0
  have hm0 := hm.to hb0
  have hc0 := h.to hb0
  clear hq1 hqb hr hm h hq4 e2
  unfold crV
  go_enter Try.func32, Try.ntmps32
  go_wp2_with fail
  refine hk0.mono ?_
  clear hk0
  rintro e w1 ⟨rfl, hb1⟩
  have hA := balloc hb1 (.cells #[.int .i64 q.id, .slice q.a q.n q.c] 27)
  have gC1 := gC.below hA gC.lt
  have hb01 := bthen hb0 hA
  have hr1 := hr0.to' hA
  have hm1 := hm0.to hA
  have hc1 := hc0.to hA
  have hcV := c_Valid A N cc rows ms _ hN hr1 hm1
  clear gC hb0 hb1 hr0 hm0 hc0 hA
  go_wp2_with fail
  refine hcV.mono ?_
  clear hcV
  rintro e w2 ⟨rfl, hb2⟩
  obtain ⟨x0, x1, x2, x3, x4, x5⟩ := (gC1.below hb2 gC1.lt).allC
  have gC2 := gC1.below hb2 gC1.lt
  have hlt2 := gC2.lt
  have hb02 := bthen hb01 hb2
  have hr2 := hr1.to' hb2
  have hm2 := hm1.to hb2
  have hc2 := hc1.to hb2
  have HG := hide gC2
  clear gC1 gC2 hb01 hb2 hr1 hm1 hc1
  cases hV : validB ms with
  | false =>
    have HE := hide (show validCopyB ms c = false by unfold validCopyB; rw [hV]; rfl)
    clear hV
    go_wp2
    go_ret
    exact ⟨ret_bool HE.out.symm, hb02⟩
  | true =>
    have HE : Hid (validCopyB ms c = (cpOk c && bq && knownB ms c.changes)) := hide (by unfold validCopyB; rw [hV, HQ.out]; rfl)
    clear hV HQ
    have hcP := c_ProperCopy r c _ hc2
    go_wp2_with fail
    refine hcP.mono ?_
    clear hcP
    rintro e w3 ⟨rfl, hb3⟩
    obtain ⟨x0, x1, x2, x3, x4, x5⟩ := (HG.out.below hb3 HG.out.lt).allC
    have hlt3 := (HG.out.below hb3 HG.out.lt).lt
    have hb03 := bthen hb02 hb3
    have hr3 := hr2.to' hb3
    have hm3 := hm2.to hb3
    have hc3 := hc2.to hb3
    clear hb02 hb3 hr2 hm2 hc2 HG
    cases hP : cpOk c with
    | false =>
      have HE := hide (show validCopyB ms c = false by rw [HE.out, hP]; rfl)
      clear hP
      go_wp2
      go_ret
      exact ⟨ret_bool HE.out.symm, hb03⟩
    | true =>
      have HE := hide (show validCopyB ms c = (bq && knownB ms c.changes) by rw [HE.out, hP]; rfl)
      clear hP
      cases bq with
      | false =>
        go_wp2
        go_ret
        exact ⟨ret_bool (by rw [HE.out]; rfl), hb03⟩
      | true =>
        have hcK := c_known A N cc rows ms r.a r.n r.c c.changes _ hN (by have := hc3.2.1; omega) hr3 hm3 hc3.2.1.2.2
        clear hr3 hm3 hc3
        go_wp2_with fail
        refine hcK.mono ?_
        clear hcK
        rintro e w4 ⟨rfl, hb4⟩
        go_wp2
        go_ret
        exact ⟨ret_bool (by rw [HE.out]; simp), bthen hb03 hb4⟩
theorem itsOk_len {l : List It} (h : itsOk l = true) : l.length ≤ 12 := by
  unfold itsOk at h
  simp only [Bool.and_eq_true, decide_eq_true_eq] at h
  exact h.1.1
theorem valid_len {ms : List Mo} (h : validB ms = true) (n : Int) : (itemsOf ms n).length ≤ 12 := by
  unfold itemsOf
  cases hf : findM ms n with
  | none => simp
  | some m =>
    have hm : m ∈ ms := List.mem_of_find?_eq_some hf
    unfold validB at h
    simp only [Bool.and_eq_true, List.all_eq_true] at h
    have := h.1.2 m hm
    unfold moOk at this
    simp only [Bool.and_eq_true] at this
    exact itsOk_len this.1.2
theorem validCopy_len {ms : List Mo} {c : Cp} (h : validCopyB ms c = true) : (itemsOf ms c.mod).length ≤ 12 ∧ c.changes.length ≤ 12 := by
  unfold validCopyB at h
  simp only [Bool.and_eq_true] at h
  refine ⟨valid_len h.1.1.1 _, ?_⟩
  have := h.1.1.2
  unfold cpOk at this
  simp only [Bool.and_eq_true] at this
  exact itsOk_len this.1.1.2
/-- the answer of Items -/
def ItemsPost (ms : List Mo) (c : Cp) (w : World) (e : Ending) (w' : World) : Prop :=
  Below w.heap.size w w' ∧ ((validCopyB ms c = false ∧ e = .returned (.tuple #[.slice none 0 0, .int .i64 140])) ∨
    ∃ v s, validCopyB ms c = true ∧ SortOf (madeM ms c) s ∧ e = .returned (.tuple #[v, .int .i64 0]) ∧ w'.ownsRow w.heap.size 36 6 v s.length (s.flatMap cI))
set_option maxRecDepth 100000 in
set_option maxHeartbeats 1000000 in
theorem c_Items (A : Option Addr) (N cc : Nat) (rows : List MR) (ms : List Mo) (r : CR) (c : Cp) (w : World) (hN : N ≤ 9223372036854775807) (hr : SlR w w.heap.size 2 A N (rows.flatMap cM)) (hm : Mods w rows ms) (h : CpR w r c) :
    Calls Try.prog 18 #[.slice A N cc, crV r] w (ItemsPost ms c w) := by
  have hb0 := balloc (Below.refl w.heap.size w) (.cells #[.int .i64 r.code, .int .i64 r.mod, .int .i64 r.x, .int .i64 r.y, .slice r.a r.n r.c, .slice r.a2 r.n2 r.c2] 45)
  have gC := Blk.new w 45 (cC r)
  have hk0 := c_ValidCopy A N cc rows ms r c _ hN (hr.to' hb0) (hm.to hb0) (h.to hb0)
  have hr0 := hr.to' hb0
  have hm0 := hm.to hb0
  have hc0 := h.to hb0
  clear hr hm h
  unfold crV
  go_enter Try.func18, Try.ntmps18
  go_wp2_with fail
  refine hk0.mono ?_
  clear hk0
  rintro e w1 ⟨rfl, hb1⟩
  obtain ⟨x0, x1, x2, x3, x4, x5⟩ := (gC.below hb1 gC.lt).allC
  have hb01 := bthen hb0 hb1
  have hr1 := hr0.to' hb1
  have hm1 := hm0.to hb1
  have hc1 := hc0.to hb1
  clear gC hb0 hr0 hm0 hc0 hb1
  cases hV : validCopyB ms c with
  | false =>
    have HV := hide hV
    clear hV
    go_wp2
    go_ret2
    exact ⟨hb01, .inl ⟨HV.out, rfl⟩⟩
  | true =>
    have HV := hide hV
    have hl := validCopy_len hV
    have hcM := c_made A N cc rows ms r c _ hN hr1 hm1 hc1 (by omega)
    clear hV hr1 hm1 hc1 hl
    go_wp2_with fail
    refine hcM.mono ?_
    clear hcM
    rintro e w2 ⟨v, s, rfl, hs, hown, hb2⟩
    have HS := hide (And.intro hs (And.intro hown hb2))
    clear hs hown hb2
    go_wp2
    go_ret2
    obtain ⟨hs, hown, hb2⟩ := HS.out
    exact ⟨bthen hb01 hb2, .inr ⟨v, s, HV.out, hs, rfl, own_base hown hb01.size⟩⟩
end Go.Proofs.Ytncdombfhcfobaa
