/- Contracts: ProperCopy, SameCopy. -/
import Derived.Test.YtncdombfhcfobaaM7
namespace Go.Proofs.Ytncdombfhcfobaa
open Go.RowKit Go.Shelf
set_option maxRecDepth 100000 in
set_option maxHeartbeats 2000000 in
theorem c_ProperCopy (r : CR) (c : Cp) (w : World) (h : CpR w r c) :
    Calls Try.prog 33 #[crV r] w fun e w' => e = .returned (.bool (cpOk c)) ∧ Below w.heap.size w w' := by
  obtain ⟨⟨e1, e2, e3, e4⟩, ⟨hn1, hn2, hr⟩, ⟨hm1, hm2, hs⟩⟩ := h
  have eg : ∀ args w, (callFunc 52 args).run Try.prog w = .ok (.enter 52 args) w := enters_of Try.func52 (by kernel_rfl) rfl
  have hb0 := balloc (Below.refl w.heap.size w) (.cells #[.int .i64 r.code, .int .i64 r.mod, .int .i64 r.x, .int .i64 r.y, .slice r.a r.n r.c, .slice r.a2 r.n2 r.c2] 45)
  have gC := Blk.new w 45 (cC r)
  have hr0 := hr.to' hb0
  have hs0 := hs.to' hb0
  have hk0 := c_contItem (fun s => decide (s.id ∈ c.gone)) 52 #[.pointer (some ⟨w.heap.size, 0, none⟩)] eg r.a r.n r.c c.changes _ (by omega) (pi_goneHas w.heap.size r c.gone _ gC (by omega) hs0) hr0
  have HF : Hid (cpOk c = (codeB r.code && inB r.mod 1 20 && plB r.x r.y && itsOk c.changes && ascB 0 99 (-1) c.gone && !(c.changes.any fun s => decide (s.id ∈ c.gone)))) := hide (by unfold cpOk; rw [e1, e2, e3, e4])
  generalize (c.changes.any fun s => decide (s.id ∈ c.gone)) = both at *
  clear hr hs eg e1 e2 e3 e4
  unfold crV
  go_enter Try.func33, Try.ntmps33
  go_wp2_with fail
  refine hk0.mono ?_
  clear hk0
  rintro e w1 ⟨rfl, hb1⟩
  obtain ⟨x0, x1, x2, x3, x4, x5⟩ := (gC.below hb1 gC.lt).allC
  have gC1 := gC.below hb1 gC.lt
  have hg1 := gC1.lt
  have hr1 := hr0.to' hb1
  have hs1 := hs0.to' hb1
  have hb01 := bthen hb0 hb1
  clear gC hr0 hs0 hb0 hb1
  have HG := hide gC1
  clear gC1
  go_wp2_with fail
  refine (c_isIn _ _ _ _).mono ?_
  rintro e w2 ⟨rfl, rfl⟩
  cases hc : inB r.code 1 39999 with
  | false =>
    have HE := hide (show cpOk c = false by rw [HF.out]; simp [codeB, hc])
    clear hc
    go_wp2
    go_ret
    exact ⟨ret_bool HE.out.symm, hb01⟩
  | true =>
    have HC := hide hc
    clear hc
    by_cases hz : r.code.tmod 1000 = 0
    · have hd : (r.code.tmod 1000 != 0) = false := by simp [hz]
      have HE := hide (show cpOk c = false by rw [HF.out]; simp [codeB, hz])
      clear hz
      go_wp2
      go_ret
      exact ⟨ret_bool HE.out.symm, hb01⟩
    · have hd : (r.code.tmod 1000 != 0) = true := by simpa using hz
      have HE := hide (show cpOk c = (inB r.mod 1 20 && plB r.x r.y && itsOk c.changes && ascB 0 99 (-1) c.gone && !both) by rw [HF.out]; simp [codeB, hz, HC.out])
      clear hz HF HC
      go_wp2_with fail
      refine (c_isIn _ _ _ _).mono ?_
      clear hd
      rintro e w2 ⟨rfl, rfl⟩
      cases hc : inB r.mod 1 20 with
      | false =>
        have HE := hide (show cpOk c = false by rw [HE.out, hc]; simp)
        clear hc
        go_wp2
        go_ret
        exact ⟨ret_bool HE.out.symm, hb01⟩
      | true =>
        have HE := hide (show cpOk c = (plB r.x r.y && itsOk c.changes && ascB 0 99 (-1) c.gone && !both) by rw [HE.out, hc]; simp)
        clear hc
        go_wp2_with fail
        refine (c_isPlace _ _ _).mono ?_
        rintro e w2 ⟨rfl, hb2⟩
        obtain ⟨x0, x1, x2, x3, x4, x5⟩ := (HG.out.below hb2 HG.out.lt).allC
        have gC2 := HG.out.below hb2 HG.out.lt
        have hg2 := gC2.lt
        have hr2 := hr1.to' hb2
        have hs2 := hs1.to' hb2
        have hb02 := bthen hb01 hb2
        clear HG hr1 hs1 hb01 hb2
        have HG := hide gC2
        clear gC2
        cases hc : plB r.x r.y with
        | false =>
          have HE := hide (show cpOk c = false by rw [HE.out, hc]; simp)
          clear hc
          go_wp2
          go_ret
          exact ⟨ret_bool HE.out.symm, hb02⟩
        | true =>
          have HE := hide (show cpOk c = (itsOk c.changes && ascB 0 99 (-1) c.gone && !both) by rw [HE.out, hc]; simp)
          clear hc
          go_wp2_with fail
          refine (c_items r.a r.n r.c c.changes _ (by omega) hr2).mono ?_
          rintro e w3 ⟨rfl, hb3⟩
          obtain ⟨x0, x1, x2, x3, x4, x5⟩ := (HG.out.below hb3 HG.out.lt).allC
          have gC2 := HG.out.below hb3 HG.out.lt
          have hg3 := gC2.lt
          have hs3 := hs2.to' hb3
          have hb03 := bthen hb02 hb3
          clear HG hr2 hs2 hb02 hb3 gC2
          cases hc : itsOk c.changes with
          | false =>
            have HE := hide (show cpOk c = false by rw [HE.out, hc]; simp)
            clear hc
            go_wp2
            go_ret
            exact ⟨ret_bool HE.out.symm, hb03⟩
          | true =>
            have HE := hide (show cpOk c = (ascB 0 99 (-1) c.gone && !both) by rw [HE.out, hc]; simp)
            clear hc
            go_wp2_with fail
            refine (c_ascInt r.a2 r.n2 r.c2 0 99 (-1) c.gone _ (by omega) (by omega) hs3).mono ?_
            rintro e w4 ⟨rfl, hb4⟩
            have hb04 := bthen hb03 hb4
            clear hs3 hb03 hb4
            cases hc : ascB 0 99 (-1) c.gone with
            | false =>
              have HE := hide (show cpOk c = false by rw [HE.out, hc]; simp)
              clear hc
              go_wp2
              go_ret
              exact ⟨ret_bool HE.out.symm, hb04⟩
            | true =>
              have HE := hide (show cpOk c = !both by rw [HE.out, hc]; simp)
              clear hc
              go_wp2
              go_ret
              exact ⟨ret_bool HE.out.symm, hb04⟩
end Go.Proofs.Ytncdombfhcfobaa
