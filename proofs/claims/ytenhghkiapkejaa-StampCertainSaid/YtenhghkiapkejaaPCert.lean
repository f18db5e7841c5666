/- StampCertain returns true for every input, and each argument reads afterwards as it read before. No condition. -/
import Derived.Test.YtenhghkiapkejaaPost4
import Derived.Test.YtenhghkiapkejaaW21
import Derived.Test.YtenhghkiapkejaaW30
namespace Go.Proofs.Ytenhghkiapkejaa
open Go.ChangeShapes Go.WideShapes Go.ChangeAt Go.RowKit
set_option maxHeartbeats 1600000 in
set_option maxRecDepth 100000 in
theorem certain_lifted (os : Os) (started : os.Started) (H : Type) (enc : TypeId × Value → H) :
    ReturnsInHanded {} Try.checked os 8 .any (Rows.stampCertainSpec.pre6 enc Try.prog Try.f8 Rows.stampCertainRow.domain false) (Rows.stampCertainSpec.post enc Try.prog Try.f8 false true false false) := by
  refine returnsInHanded_of_change (C := Try.checked) Try.own started (by kernel_rfl) Try.func8
    (ChangeSpec.witness6 (enc := enc) (C := Try.checked) false ⟨#[], #[.slice none 0 0, .slice none 0 0, .agg #[.int .i64 0, .int .i64 0, .int .i64 0], .agg #[.int .i64 0, .int .i64 0, .int .i64 0]], []⟩ 8 (by kernel_rfl) (by kernel_rfl) (by kernel_rfl) (by kernel_rfl)) ?_
  intro W base args ds gs before hval0 hW _ _
  have hval : ∀ (j : Nat) t v, Try.f8.params[j]? = some t → args[j]? = some v → Value.okWide Try.prog W .any base t v := hval0
  have hW' := hW
  obtain ⟨p, q, hA0, hV, rfl, hfz, hnd⟩ := hW
  have hA : DataW.TrodAll enc Try.prog W 0 (fun _ => true) true Try.f8.params.toList args.toList ds p := hA0
  have hA1 := hA
  rw [Try.params8] at hA hval
  obtain ⟨v0, v1, v2, v3, d0, d1, d2, d3, p0, p1, p2, p3, rfl, rfl, rfl, h0, h1, h2, h3⟩ := trodAll_four hA
  obtain ⟨rfl, rfl⟩ := trodVars_none hV
  obtain ⟨A0, x0, c0, rfl, hn0, hc0, hw0, hr0⟩ := open_sl2 (hval 0 39 v0 rfl rfl) h0
  obtain ⟨A1, x1, c1, rfl, hn1, hc1, hw1, hr1⟩ := open_sl3 (hval 1 22 v1 rfl rfl) h1
  obtain ⟨a2, rfl, hz2⟩ := open_ar3 (hval 2 31 v2 rfl rfl) h2
  obtain ⟨a3, rfl, hz3⟩ := open_ar3 (hval 3 31 v3 rfl rfl) h3
  refine (f8 (f10 f13) A0 A1 x0 x1 c0 c1 a2 a3 W hn0 hc0 hn1 hc1 hw0 hw1 hz2 hz3 hr0 hr1).mono fun e W' ⟨he, hB⟩ => ?_
  subst he
  refine ⟨_, rfl, _, _, _, [], _, [], hW', ?_, below_all hB ?_ hA1, rfl, hB.frame _, fun h => by cases h⟩
  · exact trodAll_mk1 (shut_bool Try.underlying4 true)
  · rw [Try.params8]
    intro t ht
    simp only [List.mem_cons, List.not_mem_nil, or_false] at ht
    rcases ht with rfl | rfl | rfl | rfl <;> exact ⟨by kernel_rfl, of_decide_eq_true (by kernel_rfl)⟩
/-- StampCertain: whatever the input, true; the input reads as it did. -/
theorem certain_holds : Rows.StampCertainSaid :=
  OpenClaim.holds_of_wide (p := Try.pinned) (s := Rows.stampCertainSpec) (c := Rows.stampCertainRow) 8 Try.f8 rfl rfl rfl rfl rfl rfl rfl ⟨rfl, rfl, rfl, rfl, rfl⟩ rfl rfl rfl rfl rfl (by kernel_rfl) Try.func8 (by kernel_rfl)
    (of_decide_eq_true (by kernel_rfl)) (by unfold Func.isWrapper; first | (rw [if_pos (by decide +kernel)]; kernel_rfl) | (rw [if_neg (by decide +kernel)]; exact ⟨rfl, rfl⟩))
    (fun os started H enc _ => certain_lifted os started H enc)
end Go.Proofs.Ytenhghkiapkejaa
#print axioms Go.Proofs.Ytenhghkiapkejaa.certain_holds
