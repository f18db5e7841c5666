/- Reading an argument that is an array of three integers. -/
import Derived.Test.YtenhghkiapkejaaPost3
import Derived.Laws.IdiomArrays
namespace Go.Proofs.Ytenhghkiapkejaa
open Go.ChangeShapes Go.WideShapes Go.ChangeAt Go.RowKit Go.Deep
section
variable {H : Type} {enc : TypeId × Value → H} {W : World} {base : Nat}
set_option maxRecDepth 100000 in
theorem open_ar3 {v : Value} {d : DataW H} {ps : List MemPlace} (hval : Value.okWide Try.prog W .any base 31 v) (h : DataW.Trod enc Try.prog W 0 (fun _ => true) true 31 v d ps) :
    ∃ a : I3, v = .agg #[.int .i64 a.1, .int .i64 a.2.1, .int .i64 a.2.2] ∧ (wf64 a.1 ∧ wf64 a.2.1 ∧ wf64 a.2.2) := by
  unfold Value.okWide at hval
  rw [Try.underlying31] at hval
  obtain ⟨cs, rfl, hsz, _⟩ := hval
  rw [Try.cells31] at hsz
  obtain ⟨fuel, hf⟩ := h
  obtain ⟨l⟩ := cs
  match l, hsz with
  | [c0, c1, c2], _ =>
    have hf : DataW.trod enc Try.prog W 0 (fun _ => true) true fuel 31 [c0, c1, c2] = some (d, ps) := hf
    obtain ⟨y0, y1, y2, n, _, e0, e1, e2⟩ := trod_array3 Try.underlying31 Try.cells3 hf
    obtain ⟨n0, h0, _, w0⟩ := DataW.trod_int Try.underlying3 e0
    obtain ⟨n1, h1, _, w1⟩ := DataW.trod_int Try.underlying3 e1
    obtain ⟨n2, h2, _, w2⟩ := DataW.trod_int Try.underlying3 e2
    simp at h0 h1 h2
    subst h0; subst h1; subst h2
    exact ⟨(n0, n1, n2), rfl, wf_of w0, wf_of w1, wf_of w2⟩
end
end Go.Proofs.Ytenhghkiapkejaa
