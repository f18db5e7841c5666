/- ModuleNothingElse returns true for every input, and each argument reads afterwards as it read before. No condition. -/
import Derived.Test.YtncdombfhcfobaaMPost2
import Derived.Test.YtncdombfhcfobaaM45
namespace Go.Proofs.Ytncdombfhcfobaa
open Go.ChangeShapes Go.WideShapes Go.ChangeAt Go.RowKit
set_option maxHeartbeats 1600000 in
set_option maxRecDepth 100000 in
theorem nothingElse_lifted (os : Os) (started : os.Started) (H : Type) (enc : TypeId × Value → H) :
    ReturnsInHanded {} Try.checked os 7 .any (Rows.moduleNothingElseSpec.pre6 enc Try.prog Try.f7 Rows.moduleNothingElseRow.domain false) (Rows.moduleNothingElseSpec.post enc Try.prog Try.f7 false true false false) := by
  refine returnsInHanded_of_change (C := Try.checked) Try.own started (by kernel_rfl) Try.func7
    (ChangeSpec.witness6 (enc := enc) (C := Try.checked) false ⟨#[], #[.slice none 0 0, .slice none 0 0, .slice none 0 0, .int .i64 0, .int .i64 0, .int .i64 0], []⟩ 8 (by kernel_rfl) (by kernel_rfl) (by kernel_rfl) (by kernel_rfl)) ?_
  intro W base args ds gs before hval0 hW _ _
  have hval : ∀ (j : Nat) t v, Try.f7.params[j]? = some t → args[j]? = some v → Value.okWide Try.prog W .any base t v := hval0
  have hW' := hW
  obtain ⟨p, q, hA0, hV, rfl, hfz, hnd⟩ := hW
  have hA : DataW.TrodAll enc Try.prog W 0 (fun _ => true) true Try.f7.params.toList args.toList ds p := hA0
  have hA1 := hA
  rw [Try.params7] at hA hval
  obtain ⟨v0, v1, v2, v3, v4, v5, d0, d1, d2, d3, d4, d5, p0, p1, p2, p3, p4, p5, rfl, rfl, rfl, h0, h1, h2, h3, h4, h5⟩ := trodAll_six' hA
  obtain ⟨rfl, rfl⟩ := trodVars_none hV
  obtain ⟨A0, n0, c0, rows0, x0, rfl, hn0, hc0, hr0, hX0⟩ := open_sl33 (hval 0 41 v0 rfl rfl) h0
  obtain ⟨A1, x1, c1, rfl, hn1, hc1, hw1, hr1⟩ := open_sl3 (hval 1 22 v1 rfl rfl) h1
  obtain ⟨A2, x2, c2, rfl, hn2, hc2, hw2, hr2⟩ := open_sl3 (hval 2 22 v2 rfl rfl) h2
  obtain ⟨n3, rfl, rfl, rfl, w3⟩ := open_int Try.underlying3 (hval 3 3 v3 rfl rfl) h3
  have w3 := wf_of w3
  obtain ⟨n4, rfl, rfl, rfl, w4⟩ := open_int Try.underlying3 (hval 4 3 v4 rfl rfl) h4
  have w4 := wf_of w4
  obtain ⟨n5, rfl, rfl, rfl, w5⟩ := open_int Try.underlying3 (hval 5 3 v5 rfl rfl) h5
  have w5 := wf_of w5
  refine (c_Nothing A0 A1 A2 n0 c0 x1.length c1 x2.length c2 rows0 x0 x1 x2 n3 n4 n5 W (by omega) hr0 hX0 hn1 hc1 hr1 (by omega) hr2 hw1 hw2 w3 w4 w5).mono fun e W' ⟨he, hB⟩ => ?_
  subst he
  refine ⟨_, rfl, _, _, _, [], _, [], hW', ?_, below_all hB ?_ hA1, rfl, hB.frame _, fun h => by cases h⟩
  · exact trodAll_mk1 (shut_bool Try.underlying4 true)
  · rw [Try.params7]
    intro t ht
    simp only [List.mem_cons, List.not_mem_nil, or_false] at ht
    rcases ht with rfl | rfl | rfl | rfl | rfl | rfl <;> exact ⟨by kernel_rfl, of_decide_eq_true (by kernel_rfl)⟩
/-- ModuleNothingElse: whatever the input, true; the input reads as it did. -/
theorem nothingElse_holds : Rows.ModuleNothingElseSaid :=
  OpenClaim.holds_of_wide (p := Try.pinned) (s := Rows.moduleNothingElseSpec) (c := Rows.moduleNothingElseRow) 7 Try.f7 rfl rfl rfl rfl rfl rfl rfl ⟨rfl, rfl, rfl, rfl, rfl⟩ rfl rfl rfl rfl rfl (by kernel_rfl) Try.func7 (by kernel_rfl)
    (of_decide_eq_true (by kernel_rfl)) (by unfold Func.isWrapper; first | (rw [if_pos (by decide +kernel)]; kernel_rfl) | (rw [if_neg (by decide +kernel)]; exact ⟨rfl, rfl⟩))
    (fun os started H enc _ => nothingElse_lifted os started H enc)
end Go.Proofs.Ytncdombfhcfobaa
#print axioms Go.Proofs.Ytncdombfhcfobaa.nothingElse_holds
