/- Reading arguments that are structs of integers. -/
import Derived.Test.YtenhghkiapkejaaPost4
import Derived.Lib.SmallJoins
namespace Go.Proofs.Ytenhghkiapkejaa
open Go.ChangeShapes Go.WideShapes Go.ChangeAt Go.RowKit Go.Deep
theorem Try.cells24 : Try.prog.cellsOf 24 = 3 := by kernel_rfl
theorem Try.cells41 : Try.prog.cellsOf 41 = 3 := by kernel_rfl
theorem Try.cells43 : Try.prog.cellsOf 43 = 4 := by kernel_rfl
section
variable {H : Type} {enc : TypeId × Value → H} {W : World} {base : Nat}
set_option maxRecDepth 100000 in
theorem open_st {v : Value} {d : DataW H} {ps : List MemPlace} (hval : Value.okWide Try.prog W .any base 24 v) (h : DataW.Trod enc Try.prog W 0 (fun _ => true) true 24 v d ps) :
    ∃ a : I3, v = .agg #[.int .i64 a.1, .int .i64 a.2.1, .int .i64 a.2.2] ∧ (wf64 a.1 ∧ wf64 a.2.1 ∧ wf64 a.2.2) := by
  obtain ⟨v0, v1, v2, y0, y1, y2, n, rfl, _, _, e0, e1, e2⟩ := Joins.open_agg3 Try.underlying24 (by kernel_rfl) Try.cells24 hval h
  obtain ⟨n0, h0, _, w0⟩ := DataW.trod_int Try.underlying3 e0
  obtain ⟨n1, h1, _, w1⟩ := DataW.trod_int Try.underlying3 e1
  obtain ⟨n2, h2, _, w2⟩ := DataW.trod_int Try.underlying3 e2
  simp at h0 h1 h2
  subst h0; subst h1; subst h2
  exact ⟨(n0, n1, n2), rfl, wf_of w0, wf_of w1, wf_of w2⟩
set_option maxRecDepth 100000 in
theorem open_sk {v : Value} {d : DataW H} {ps : List MemPlace} (hval : Value.okWide Try.prog W .any base 41 v) (h : DataW.Trod enc Try.prog W 0 (fun _ => true) true 41 v d ps) :
    ∃ a : I3, v = .agg #[.int .i64 a.1, .int .i64 a.2.1, .int .i64 a.2.2] ∧ (wf64 a.1 ∧ wf64 a.2.1 ∧ wf64 a.2.2) := by
  obtain ⟨v0, v1, v2, y0, y1, y2, n, rfl, _, _, e0, e1, e2⟩ := Joins.open_agg3 Try.underlying41 (by kernel_rfl) Try.cells41 hval h
  obtain ⟨n0, h0, _, w0⟩ := DataW.trod_int Try.underlying3 e0
  obtain ⟨n1, h1, _, w1⟩ := DataW.trod_int Try.underlying3 e1
  obtain ⟨n2, h2, _, w2⟩ := DataW.trod_int Try.underlying3 e2
  simp at h0 h1 h2
  subst h0; subst h1; subst h2
  exact ⟨(n0, n1, n2), rfl, wf_of w0, wf_of w1, wf_of w2⟩
set_option maxRecDepth 100000 in
theorem open_mt {v : Value} {d : DataW H} {ps : List MemPlace} (hval : Value.okWide Try.prog W .any base 43 v) (h : DataW.Trod enc Try.prog W 0 (fun _ => true) true 43 v d ps) :
    ∃ a : I4, v = .agg #[.int .i64 a.1, .int .i64 a.2.1, .int .i64 a.2.2.1, .int .i64 a.2.2.2] ∧ (wf64 a.1 ∧ wf64 a.2.1 ∧ wf64 a.2.2.1 ∧ wf64 a.2.2.2) := by
  obtain ⟨v0, v1, v2, v3, y0, y1, y2, y3, n, rfl, _, _, e0, e1, e2, e3⟩ := Joins.open_agg4 Try.underlying43 (by kernel_rfl) Try.cells43 hval h
  obtain ⟨n0, h0, _, w0⟩ := DataW.trod_int Try.underlying3 e0
  obtain ⟨n1, h1, _, w1⟩ := DataW.trod_int Try.underlying3 e1
  obtain ⟨n2, h2, _, w2⟩ := DataW.trod_int Try.underlying3 e2
  obtain ⟨n3, h3, _, w3⟩ := DataW.trod_int Try.underlying3 e3
  simp at h0 h1 h2 h3
  subst h0; subst h1; subst h2; subst h3
  exact ⟨(n0, n1, n2, n3), rfl, wf_of w0, wf_of w1, wf_of w2, wf_of w3⟩
end
end Go.Proofs.Ytenhghkiapkejaa
