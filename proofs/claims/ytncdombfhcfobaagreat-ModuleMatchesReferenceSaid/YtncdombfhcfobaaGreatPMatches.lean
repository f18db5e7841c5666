/- ModuleMatchesReference returns true for every input, and each argument reads afterwards as it read before. No condition. -/
import Derived.Test.YtncdombfhcfobaaGreatG15
import Derived.Test.YtncdombfhcfobaaGreatG23
namespace Go.Proofs.YtncdombfhcfobaaGreat
open Go.ChangeShapes Go.WideShapes Go.ChangeAt Go.RowKit
set_option maxHeartbeats 1600000 in
set_option maxRecDepth 100000 in
theorem matches_lifted (os : Os) (started : os.Started) (H : Type) (enc : TypeId × Value → H) :
    ReturnsInHanded {} Tryz.checked os 3 .any (Rows.moduleMatchesReferenceSpec.pre6 enc Tryz.prog Tryz.f3 Rows.moduleMatchesReferenceRow.domain false) (Rows.moduleMatchesReferenceSpec.post enc Tryz.prog Tryz.f3 false true false false) := by
  refine returnsInHanded_of_change (C := Tryz.checked) Tryz.own started (by kernel_rfl) Tryz.func3
    (ChangeSpec.witness6 (enc := enc) (C := Tryz.checked) false ⟨#[], #[.slice none 0 0, .slice none 0 0, .slice none 0 0, .int .i64 0, .int .i64 0, .agg #[.int .i64 0, .int .i64 0, .int .i64 0, .int .i64 0, .string ⟨#[]⟩, .int .i64 0], .slice none 0 0, .agg #[.int .i64 0, .int .i64 0, .int .i64 0, .int .i64 0, .slice none 0 0, .slice none 0 0], .int .i64 0], []⟩ 8 (by kernel_rfl) (by kernel_rfl) (by kernel_rfl) (by kernel_rfl)) ?_
  intro W base args ds gs before hval0 hW _ _
  have hval : ∀ (j : Nat) t v, Tryz.f3.params[j]? = some t → args[j]? = some v → Value.okWide Tryz.prog W .any base t v := hval0
  have hW' := hW
  obtain ⟨p, q, hA0, hV, rfl, hfz, hnd⟩ := hW
  have hA : DataW.TrodAll enc Tryz.prog W 0 (fun _ => true) true Tryz.f3.params.toList args.toList ds p := hA0
  have hA1 := hA
  rw [Tryz.params3] at hA hval
  obtain ⟨v0, v1, v2, v3, v4, v5, v6, v7, v8, d0, d1, d2, d3, d4, d5, d6, d7, d8, p0, p1, p2, p3, p4, p5, p6, p7, p8, rfl, rfl, rfl, hx⟩ := trodAll_nine hA
  obtain ⟨h0, h1, h2, h3, h4, h5, h6, h7, h8⟩ := hx
  obtain ⟨rfl, rfl⟩ := trodVars_none hV
  obtain ⟨A0, n0, c0, rows0, x0, rfl, hn0, hc0, hr0, hX0⟩ := open_sl33 (hval 0 22 v0 rfl rfl) h0
  obtain ⟨A1, x1, c1, rfl, hn1, hc1, hw1, hr1⟩ := open_sl3 (hval 1 23 v1 rfl rfl) h1
  obtain ⟨A2, x2, c2, rfl, hn2, hc2, hw2, hr2⟩ := open_sl3 (hval 2 23 v2 rfl rfl) h2
  obtain ⟨n3, rfl, rfl, rfl, w3⟩ := open_int Tryz.underlying3 (hval 3 3 v3 rfl rfl) h3
  have w3 := wf_of w3
  obtain ⟨n4, rfl, rfl, rfl, w4⟩ := open_int Tryz.underlying3 (hval 4 3 v4 rfl rfl) h4
  have w4 := wf_of w4
  obtain ⟨s5, rfl⟩ := open_itV (hval 5 27 v5 rfl rfl) h5
  obtain ⟨A6, n6, c6, rows6, ms6, rfl, hn6, hc6, hr6, hm6⟩ := open_mods (hval 6 28 v6 rfl rfl) h6
  obtain ⟨r7, q7, rfl, hC7⟩ := open_copy (hval 7 32 v7 rfl rfl) h7
  obtain ⟨n8, rfl, rfl, rfl, w8⟩ := open_int Tryz.underlying3 (hval 8 3 v8 rfl rfl) h8
  refine (c_Matches A0 A1 A2 A6 n0 c0 c1 c2 n6 c6 rows0 x0 x1 x2 n3 n4 n8 s5 rows6 ms6 r7 q7 W (by omega) hr0 hX0 hn1 hc1 hr1 hw1 hn2 hc2 hr2 hw2 w3 w4 hn6 hc6 hr6 hm6 hC7).mono fun e W' ⟨he, hB⟩ => ?_
  subst he
  refine ⟨_, rfl, _, _, _, [], _, [], hW', ?_, below_all hB ?_ hA1, rfl, hB.frame _, fun h => by cases h⟩
  · exact trodAll_mk1 (shut_bool Tryz.underlying4 true)
  · rw [Tryz.params3]
    intro t ht
    simp only [List.mem_cons, List.not_mem_nil, or_false] at ht
    rcases ht with rfl | rfl | rfl | rfl | rfl | rfl | rfl | rfl | rfl <;> exact ⟨by kernel_rfl, of_decide_eq_true (by kernel_rfl)⟩
/-- ModuleMatchesReference: whatever the input, true; the input reads as it did. -/
theorem matches_holds : Rows.ModuleMatchesReferenceSaid :=
  OpenClaim.holds_of_wide (p := Tryz.pinned) (s := Rows.moduleMatchesReferenceSpec) (c := Rows.moduleMatchesReferenceRow) 3 Tryz.f3 rfl rfl rfl rfl rfl rfl rfl ⟨rfl, rfl, rfl, rfl, rfl⟩ rfl rfl rfl rfl rfl (by kernel_rfl) Tryz.func3 (by kernel_rfl)
    (of_decide_eq_true (by kernel_rfl)) (by unfold Func.isWrapper; first | (rw [if_pos (by decide +kernel)]; kernel_rfl) | (rw [if_neg (by decide +kernel)]; exact ⟨rfl, rfl⟩))
    (fun os started H enc _ => matches_lifted os started H enc)
end Go.Proofs.YtncdombfhcfobaaGreat
#print axioms Go.Proofs.YtncdombfhcfobaaGreat.matches_holds
