/- Contract: SameCopy. -/
import Derived.Test.YtncdombfhcfobaaM19
namespace Go.Proofs.Ytncdombfhcfobaa
open Go.RowKit
theorem eqPl (w : World) (a p b q : Int) : (Op.equalIn 10000 34 (.agg #[.int .i64 a, .int .i64 p]) (.agg #[.int .i64 b, .int .i64 q])).run Try.prog w = .ok (decide (a = b ∧ p = q)) w := by
  rw [run_equalIn_struct w 9999 34 _ _ (by kernel_rfl) (by kernel_rfl)]
  simp only [Program.fieldsOf, Try.underlying34]
  simp [go_sem, Op.eqFields]
  by_cases h1 : a = b <;> by_cases h2 : p = q <;> simp [h1, h2]
theorem eqlPl (w : World) (a p b q : Int) : (binOp .eql 34 (.agg #[.int .i64 a, .int .i64 p]) (.agg #[.int .i64 b, .int .i64 q])).run Try.prog w = .ok (.bool (decide (a = b ∧ p = q))) w := by
  simp only [binOp]
  have := eqPl w a p b q
  simp [Op.equal, Op.maxDepth] at this ⊢
  rw [this]; rfl
def sameCp (c d : Cp) : Bool := decide (c.code = d.code) && decide (c.mod = d.mod) && decide (c.x = d.x ∧ c.y = d.y) && decide (c.changes = d.changes) && decide (c.gone = d.gone)
set_option maxRecDepth 100000 in
set_option maxHeartbeats 2000000 in
theorem c_SameCopy (r s : CR) (c d : Cp) (w : World) (h : CpR w r c) (k : CpR w s d) :
    Calls Try.prog 35 #[crV r, crV s] w fun e w' => e = .returned (.bool (sameCp c d)) ∧ Below w.heap.size w w' := by
  have hb0 := balloc (balloc (Below.refl w.heap.size w) (.cells #[.int .i64 r.code, .int .i64 r.mod, .int .i64 r.x, .int .i64 r.y, .slice r.a r.n r.c, .slice r.a2 r.n2 r.c2] 45)) (.cells #[.int .i64 s.code, .int .i64 s.mod, .int .i64 s.x, .int .i64 s.y, .slice s.a s.n s.c, .slice s.a2 s.n2 s.c2] 45)
  have h0 := h.to hb0
  have k0 := k.to hb0
  obtain ⟨⟨e1, e2, e3, e4⟩, ⟨_, hn, hr⟩, ⟨_, hm, hs⟩⟩ := h0
  obtain ⟨⟨f1, f2, f3, f4⟩, ⟨_, kn, kr⟩, ⟨_, km, ks⟩⟩ := k0
  have hcI := c_eqItem r.a r.n r.c c.changes s.a s.n s.c d.changes _ (by omega) (by omega) hr kr
  have gR : Blk ((w.alloc (.cells #[.int .i64 r.code, .int .i64 r.mod, .int .i64 r.x, .int .i64 r.y, .slice r.a r.n r.c, .slice r.a2 r.n2 r.c2] 45)).alloc (.cells #[.int .i64 s.code, .int .i64 s.mod, .int .i64 s.x, .int .i64 s.y, .slice s.a s.n s.c, .slice s.a2 s.n2 s.c2] 45)) w.heap.size 45 (cC r) := (Blk.new w 45 (cC r)).alloc _
  have gS : Blk ((w.alloc (.cells #[.int .i64 r.code, .int .i64 r.mod, .int .i64 r.x, .int .i64 r.y, .slice r.a r.n r.c, .slice r.a2 r.n2 r.c2] 45)).alloc (.cells #[.int .i64 s.code, .int .i64 s.mod, .int .i64 s.x, .int .i64 s.y, .slice s.a s.n s.c, .slice s.a2 s.n2 s.c2] 45)) (w.heap.size + 1) 45 (cC s) := by
    have := Blk.new (w.alloc (.cells #[.int .i64 r.code, .int .i64 r.mod, .int .i64 r.x, .int .i64 r.y, .slice r.a r.n r.c, .slice r.a2 r.n2 r.c2] 45)) 45 (cC s)
    rw [show (w.alloc (.cells #[.int .i64 r.code, .int .i64 r.mod, .int .i64 r.x, .int .i64 r.y, .slice r.a r.n r.c, .slice r.a2 r.n2 r.c2] 45)).heap.size = w.heap.size + 1 from by simp] at this
    exact this
  have HE : Hid (sameCp c d = (decide (r.code = s.code) && decide (r.mod = s.mod) && decide (r.x = s.x ∧ r.y = s.y) && decide (c.changes = d.changes) && decide (c.gone = d.gone))) := hide (by unfold sameCp; rw [e1, e2, e3, e4, f1, f2, f3, f4])
  have HS := hide (And.intro hs ks)
  clear h k e1 e2 e3 e4 f1 f2 f3 f4 hr kr hs ks
  unfold crV
  by_cases h1 : r.code = s.code
  · have d1 : (r.code == s.code) = true := by simpa using h1
    by_cases h2 : r.mod = s.mod
    · have d2 : (r.mod == s.mod) = true := by simpa using h2
      by_cases h3 : r.x = s.x ∧ r.y = s.y
      · have HE := hide (show sameCp c d = (decide (c.changes = d.changes) && decide (c.gone = d.gone)) by rw [HE.out]; simp [h1, h2, h3])
        have q3 : ∀ w, (binOp .eql 34 (.agg #[.int .i64 r.x, .int .i64 r.y]) (.agg #[.int .i64 s.x, .int .i64 s.y])).run Try.prog w = .ok (.bool true) w := fun w => by rw [eqlPl]; simp [h3]
        clear h1 h2 h3
        go_enter Try.func35, Try.ntmps35
        go_wp2_with fail
        refine hcI.mono ?_
        clear hcI
        rintro e w1 ⟨rfl, hb1⟩
        obtain ⟨_, _, _, _, _, x5⟩ := (gR.below hb1 gR.lt).allC
        obtain ⟨_, _, _, _, _, y5⟩ := (gS.below hb1 gS.lt).allC
        have hl1 := (gS.below hb1 gS.lt).lt
        have hb01 := bthen hb0 hb1
        by_cases h4 : c.changes = d.changes
        · have d4 : decide (c.changes = d.changes) = true := by simpa using h4
          have HE := hide (show sameCp c d = decide (c.gone = d.gone) by rw [HE.out, d4]; rfl)
          have hcN := c_eqInt r.a2 r.n2 r.c2 c.gone s.a2 s.n2 s.c2 d.gone _ (by omega) (by omega) (HS.out.1.to' hb1) (HS.out.2.to' hb1)
          clear h4 gR gS
          go_wp2_with fail
          refine hcN.mono ?_
          clear hcN
          rintro e w2 ⟨rfl, hb2⟩
          go_wp2
          go_ret
          exact ⟨ret_bool HE.out.symm, bthen hb01 hb2⟩
        · have d4 : decide (c.changes = d.changes) = false := by simpa using h4
          have HE := hide (show sameCp c d = false by rw [HE.out, d4]; rfl)
          clear h4 gR gS
          go_wp2
          go_ret
          exact ⟨ret_bool HE.out.symm, hb01⟩
      · have HE := hide (show sameCp c d = false by rw [HE.out]; simp [h3])
        have q3 : ∀ w, (binOp .eql 34 (.agg #[.int .i64 r.x, .int .i64 r.y]) (.agg #[.int .i64 s.x, .int .i64 s.y])).run Try.prog w = .ok (.bool false) w := fun w => by rw [eqlPl]; simp [h3]
        clear h1 h2 h3 hcI gR gS
        go_enter Try.func35, Try.ntmps35
        go_wp2
        go_ret
        exact ⟨ret_bool HE.out.symm, hb0⟩
    · have d2 : (r.mod == s.mod) = false := by simpa using h2
      have HE := hide (show sameCp c d = false by rw [HE.out]; simp [h2])
      clear h1 h2 hcI gR gS
      go_enter Try.func35, Try.ntmps35
      go_wp2
      go_ret
      exact ⟨ret_bool HE.out.symm, hb0⟩
  · have d1 : (r.code == s.code) = false := by simpa using h1
    have HE := hide (show sameCp c d = false by rw [HE.out]; simp [h1])
    clear h1 hcI gR gS
    go_enter Try.func35, Try.ntmps35
    go_wp2
    go_ret
    exact ⟨ret_bool HE.out.symm, hb0⟩
end Go.Proofs.Ytncdombfhcfobaa
