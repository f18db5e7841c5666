/- ModuleMerges returns true for every input, and each argument reads afterwards as it read before. No condition. -/
import Derived.Test.YtncdombfhcfobaaMPost
import Derived.Test.YtncdombfhcfobaaM39
namespace Go.Proofs.Ytncdombfhcfobaa
open Go.ChangeShapes Go.WideShapes Go.ChangeAt Go.RowKit
set_option maxHeartbeats 1600000 in
set_option maxRecDepth 100000 in
theorem merges_lifted (os : Os) (started : os.Started) (H : Type) (enc : TypeId × Value → H) :
    ReturnsInHanded {} Try.checked os 3 .any (Rows.moduleMergesSpec.pre6 enc Try.prog Try.f3 Rows.moduleMergesRow.domain false) (Rows.moduleMergesSpec.post enc Try.prog Try.f3 false true false false) := by
  refine returnsInHanded_of_change (C := Try.checked) Try.own started (by kernel_rfl) Try.func3
    (ChangeSpec.witness6 (enc := enc) (C := Try.checked) false ⟨#[], #[.slice none 0 0, .slice none 0 0, .slice none 0 0], []⟩ 8 (by kernel_rfl) (by kernel_rfl) (by kernel_rfl) (by kernel_rfl)) ?_
  intro W base args ds gs before hval0 hW _ _
  have hval : ∀ (j : Nat) t v, Try.f3.params[j]? = some t → args[j]? = some v → Value.okWide Try.prog W .any base t v := hval0
  have hW' := hW
  obtain ⟨p, q, hA0, hV, rfl, hfz, hnd⟩ := hW
  have hA : DataW.TrodAll enc Try.prog W 0 (fun _ => true) true Try.f3.params.toList args.toList ds p := hA0
  have hA1 := hA
  rw [Try.params3] at hA hval
  obtain ⟨v0, v1, v2, d0, d1, d2, p0, p1, p2, rfl, rfl, rfl, h0, h1, h2⟩ := trodAll_three hA
  obtain ⟨rfl, rfl⟩ := trodVars_none hV
  obtain ⟨A0, x0, c0, rfl, hn0, hc0, hw0, hr0⟩ := open_sl3 (hval 0 22 v0 rfl rfl) h0
  obtain ⟨A1, x1, c1, rfl, hn1, hc1, hw1, hr1⟩ := open_sl3 (hval 1 22 v1 rfl rfl) h1
  obtain ⟨A2, x2, c2, rfl, hn2, hc2, hw2, hr2⟩ := open_sl3 (hval 2 22 v2 rfl rfl) h2
  refine (c_Merges A0 A1 A2 x0.length c0 x1.length c1 x2.length c2 x0 x1 x2 W (by omega) (by omega) (by omega) hr0 hr1 hr2 hw0 hw1 hw2).mono fun e W' ⟨he, hB⟩ => ?_
  subst he
  refine ⟨_, rfl, _, _, _, [], _, [], hW', ?_, below_all hB ?_ hA1, rfl, hB.frame _, fun h => by cases h⟩
  · exact trodAll_mk1 (shut_bool Try.underlying4 true)
  · rw [Try.params3]
    intro t ht
    simp only [List.mem_cons, List.not_mem_nil, or_false] at ht
    rcases ht with rfl | rfl | rfl <;> exact ⟨by kernel_rfl, of_decide_eq_true (by kernel_rfl)⟩
/-- ModuleMerges: whatever the input, true; the input reads as it did. -/
theorem merges_holds : Rows.ModuleMergesSaid :=
  OpenClaim.holds_of_wide (p := Try.pinned) (s := Rows.moduleMergesSpec) (c := Rows.moduleMergesRow) 3 Try.f3 rfl rfl rfl rfl rfl rfl rfl ⟨rfl, rfl, rfl, rfl, rfl⟩ rfl rfl rfl rfl rfl (by kernel_rfl) Try.func3 (by kernel_rfl)
    (of_decide_eq_true (by kernel_rfl)) (by unfold Func.isWrapper; first | (rw [if_pos (by decide +kernel)]; kernel_rfl) | (rw [if_neg (by decide +kernel)]; exact ⟨rfl, rfl⟩))
    (fun os started H enc _ => merges_lifted os started H enc)
end Go.Proofs.Ytncdombfhcfobaa
#print axioms Go.Proofs.Ytncdombfhcfobaa.merges_holds
