/- StampClocksMatchReference returns true for every input, and each argument reads afterwards as it read before. No condition. -/
import Derived.Test.YtenhghkiapkejaaPost
import Derived.Laws.IdiomArrays
import Derived.Lib.SmallJoins
import Derived.Test.YtenhghkiapkejaaW21
import Derived.Test.YtenhghkiapkejaaW32b
namespace Go.Proofs.Ytenhghkiapkejaa
open Go.ChangeShapes Go.WideShapes Go.ChangeAt Go.RowKit Go.Deep
theorem Try.cells31 : Try.prog.cellsOf 31 = 3 := by kernel_rfl
section
variable {H : Type} {enc : TypeId × Value → H} {W : World} {base : Nat}
set_option maxRecDepth 100000 in
theorem open_sl3 {v : Value} {d : DataW H} {ps : List MemPlace} (hval : Value.okWide Try.prog W .any base 22 v) (h : DataW.Trod enc Try.prog W 0 (fun _ => true) true 22 v d ps) :
    ∃ (A : Option Addr) (x : List I3) (c : Nat), v = .slice A x.length c ∧ x.length ≤ c ∧ c ≤ 9223372036854775807 ∧ (∀ s ∈ x, wf64 s.1 ∧ wf64 s.2.1 ∧ wf64 s.2.2) ∧ SlR W W.heap.size 3 A x.length (x.flatMap c3) := by
  obtain ⟨a, len, cap, rfl⟩ := okWide_slice Try.underlying22 hval
  obtain ⟨fuel, hf⟩ := h
  rcases open_slice Try.underlying22 hf with ⟨h0, _⟩ | ⟨a', len', cap', m, n, D, Pl, hcs, _, hl, hm, hmm, hx, hi⟩
  · simp [Value.cells] at h0
    obtain ⟨rfl, rfl, rfl⟩ := h0
    exact ⟨none, [], 0, rfl, by simp, by omega, by simp, SlR.nil⟩
  · simp [Value.cells] at hcs
    obtain ⟨rfl, rfl, rfl⟩ := hcs
    simp only [if_true] at hmm
    subst hmm
    rw [Try.cells31] at hi
    have key : ∀ i, i < len → ∃ s : I3, (wf64 s.1 ∧ wf64 s.2.1 ∧ wf64 s.2.2) ∧ W.cell? (a'.add (i * 3)) = some (.int .i64 s.1) ∧ W.cell? ((a'.add (i * 3)).add 1) = some (.int .i64 s.2.1) ∧ W.cell? ((a'.add (i * 3)).add 2) = some (.int .i64 s.2.2) := by
      intro i hil
      obtain ⟨cs', hc, ht'⟩ := hi i (by omega)
      obtain ⟨_, hcl, hat⟩ := World.cells?_some hc
      obtain ⟨xs, m', _, _, _, hxl, hel⟩ := DataW.trod_array Try.underlying31 ht'
      match cs', hcl with
      | [u0, u1, u2], _ =>
        have e0 := hel 0 (by omega)
        have e1 := hel 1 (by omega)
        have e2 := hel 2 (by omega)
        rw [Try.cells3] at e0 e1 e2
        simp only [Nat.mul_one, List.drop_zero, List.drop_succ_cons, List.take_succ_cons, List.take_zero] at e0 e1 e2
        rw [List.getElem?_eq_getElem (by omega)] at e0 e1 e2
        obtain ⟨n0, h0, _, w0⟩ := DataW.trod_int Try.underlying3 e0
        obtain ⟨n1, h1, _, w1⟩ := DataW.trod_int Try.underlying3 e1
        obtain ⟨n2, h2, _, w2⟩ := DataW.trod_int Try.underlying3 e2
        simp at h0 h1 h2
        subst h0; subst h1; subst h2
        refine ⟨(n0, n1, n2), ⟨wf_of w0, wf_of w1, wf_of w2⟩, ?_, ?_, ?_⟩
        · have := hat 0 (by omega); simpa [Addr.add] using this
        · have := hat 1 (by omega); simpa using this
        · have := hat 2 (by omega); simpa using this
    obtain ⟨x, hxl, hxk⟩ := pick_list len key
    subst hxl
    refine ⟨some a', x, _, rfl, hl, by simpa [maxLen] using hm, fun s hs => ?_, ?_⟩
    · obtain ⟨i, hi', rfl⟩ := List.getElem_of_mem hs
      exact (hxk i hi').1
    · rcases Nat.eq_zero_or_pos x.length with h0 | h0
      · have : x = [] := List.eq_nil_of_length_eq_zero h0
        subst this
        exact SlR.nil
      · obtain ⟨b, off, spot⟩ := a'
        have c0 := (hxk 0 h0).2.1
        have hbl := World.block_lt_of_cell? W _ c0
        simp only [Nat.zero_mul, Addr.add, if_true] at c0 hbl
        have hsp : spot = none := by
          unfold World.cell? at c0
          cases spot with
          | none => rfl
          | some s => split at c0 <;> simp at c0
        subst hsp
        refine slr_of c3 (by omega) (fun _ => rfl) x hbl fun i hi' j hj => ?_
        obtain ⟨_, k0, k1, k2⟩ := hxk i hi'
        have ea : (⟨b, off, none⟩ : Addr).add (i * 3) = ⟨b, off + i * 3, none⟩ := by unfold Addr.add; split <;> simp_all
        rw [ea] at k0 k1 k2
        match j, hj with
        | 0, _ => simpa [c3] using k0
        | 1, _ => simpa [c3, Addr.add, Nat.add_assoc] using k1
        | 2, _ => simpa [c3, Addr.add, Nat.add_assoc] using k2
end
end Go.Proofs.Ytenhghkiapkejaa
namespace Go.Proofs.Ytenhghkiapkejaa
open Go.ChangeShapes Go.WideShapes Go.ChangeAt Go.RowKit Go.Deep
section
variable {H : Type} {enc : TypeId × Value → H} {W : World} {base : Nat}
set_option maxRecDepth 100000 in
theorem open_ar3 {v : Value} {d : DataW H} {ps : List MemPlace} (hval : Value.okWide Try.prog W .any base 31 v) (h : DataW.Trod enc Try.prog W 0 (fun _ => true) true 31 v d ps) :
    ∃ a : I3, v = .agg #[.int .i64 a.1, .int .i64 a.2.1, .int .i64 a.2.2] ∧ (wf64 a.1 ∧ wf64 a.2.1 ∧ wf64 a.2.2) := by
  unfold Value.okWide at hval
  rw [Try.underlying31] at hval
  obtain ⟨cs, rfl, hsz, _⟩ := hval
  rw [Try.cells31] at hsz
  obtain ⟨fuel, hf⟩ := h
  obtain ⟨l⟩ := cs
  match l, hsz with
  | [c0, c1, c2], _ =>
    have hf : DataW.trod enc Try.prog W 0 (fun _ => true) true fuel 31 [c0, c1, c2] = some (d, ps) := hf
    obtain ⟨y0, y1, y2, n, _, e0, e1, e2⟩ := trod_array3 Try.underlying31 Try.cells3 hf
    obtain ⟨n0, h0, _, w0⟩ := DataW.trod_int Try.underlying3 e0
    obtain ⟨n1, h1, _, w1⟩ := DataW.trod_int Try.underlying3 e1
    obtain ⟨n2, h2, _, w2⟩ := DataW.trod_int Try.underlying3 e2
    simp at h0 h1 h2
    subst h0; subst h1; subst h2
    exact ⟨(n0, n1, n2), rfl, wf_of w0, wf_of w1, wf_of w2⟩
end
end Go.Proofs.Ytenhghkiapkejaa
namespace Go.Proofs.Ytenhghkiapkejaa
open Go.ChangeShapes Go.WideShapes Go.ChangeAt Go.RowKit Go.Deep
theorem Try.cells24 : Try.prog.cellsOf 24 = 3 := by kernel_rfl
theorem Try.cells41 : Try.prog.cellsOf 41 = 3 := by kernel_rfl
theorem Try.cells43 : Try.prog.cellsOf 43 = 4 := by kernel_rfl
section
variable {H : Type} {enc : TypeId × Value → H} {W : World} {base : Nat}
set_option maxRecDepth 100000 in
theorem open_st {v : Value} {d : DataW H} {ps : List MemPlace} (hval : Value.okWide Try.prog W .any base 24 v) (h : DataW.Trod enc Try.prog W 0 (fun _ => true) true 24 v d ps) :
    ∃ a : I3, v = .agg #[.int .i64 a.1, .int .i64 a.2.1, .int .i64 a.2.2] ∧ (wf64 a.1 ∧ wf64 a.2.1 ∧ wf64 a.2.2) := by
  obtain ⟨v0, v1, v2, y0, y1, y2, n, rfl, _, _, e0, e1, e2⟩ := Joins.open_agg3 Try.underlying24 (by kernel_rfl) Try.cells24 hval h
  obtain ⟨n0, h0, _, w0⟩ := DataW.trod_int Try.underlying3 e0
  obtain ⟨n1, h1, _, w1⟩ := DataW.trod_int Try.underlying3 e1
  obtain ⟨n2, h2, _, w2⟩ := DataW.trod_int Try.underlying3 e2
  simp at h0 h1 h2
  subst h0; subst h1; subst h2
  exact ⟨(n0, n1, n2), rfl, wf_of w0, wf_of w1, wf_of w2⟩
set_option maxRecDepth 100000 in
theorem open_sk {v : Value} {d : DataW H} {ps : List MemPlace} (hval : Value.okWide Try.prog W .any base 41 v) (h : DataW.Trod enc Try.prog W 0 (fun _ => true) true 41 v d ps) :
    ∃ a : I3, v = .agg #[.int .i64 a.1, .int .i64 a.2.1, .int .i64 a.2.2] ∧ (wf64 a.1 ∧ wf64 a.2.1 ∧ wf64 a.2.2) := by
  obtain ⟨v0, v1, v2, y0, y1, y2, n, rfl, _, _, e0, e1, e2⟩ := Joins.open_agg3 Try.underlying41 (by kernel_rfl) Try.cells41 hval h
  obtain ⟨n0, h0, _, w0⟩ := DataW.trod_int Try.underlying3 e0
  obtain ⟨n1, h1, _, w1⟩ := DataW.trod_int Try.underlying3 e1
  obtain ⟨n2, h2, _, w2⟩ := DataW.trod_int Try.underlying3 e2
  simp at h0 h1 h2
  subst h0; subst h1; subst h2
  exact ⟨(n0, n1, n2), rfl, wf_of w0, wf_of w1, wf_of w2⟩
set_option maxRecDepth 100000 in
theorem open_mt {v : Value} {d : DataW H} {ps : List MemPlace} (hval : Value.okWide Try.prog W .any base 43 v) (h : DataW.Trod enc Try.prog W 0 (fun _ => true) true 43 v d ps) :
    ∃ a : I4, v = .agg #[.int .i64 a.1, .int .i64 a.2.1, .int .i64 a.2.2.1, .int .i64 a.2.2.2] ∧ (wf64 a.1 ∧ wf64 a.2.1 ∧ wf64 a.2.2.1 ∧ wf64 a.2.2.2) := by
  obtain ⟨v0, v1, v2, v3, y0, y1, y2, y3, n, rfl, _, _, e0, e1, e2, e3⟩ := Joins.open_agg4 Try.underlying43 (by kernel_rfl) Try.cells43 hval h
  obtain ⟨n0, h0, _, w0⟩ := DataW.trod_int Try.underlying3 e0
  obtain ⟨n1, h1, _, w1⟩ := DataW.trod_int Try.underlying3 e1
  obtain ⟨n2, h2, _, w2⟩ := DataW.trod_int Try.underlying3 e2
  obtain ⟨n3, h3, _, w3⟩ := DataW.trod_int Try.underlying3 e3
  simp at h0 h1 h2 h3
  subst h0; subst h1; subst h2; subst h3
  exact ⟨(n0, n1, n2, n3), rfl, wf_of w0, wf_of w1, wf_of w2, wf_of w3⟩
end
end Go.Proofs.Ytenhghkiapkejaa
namespace Go.Proofs.Ytenhghkiapkejaa
open Go.ChangeShapes Go.WideShapes Go.ChangeAt Go.RowKit
theorem trodAll_five {H : Type} {enc : TypeId × Value → H} {P : Program} {w : World} {base : Nat} {spare : Nat → Bool} {held : Bool} {t1 t2 t3 t4 t5 : TypeId} {args : Array Value} {ds : List (DataW H)} {ps : List MemPlace}
    (h : DataW.TrodAll enc P w base spare held [t1, t2, t3, t4, t5] args.toList ds ps) : ∃ v1 v2 v3 v4 v5 d1 d2 d3 d4 d5 p1 p2 p3 p4 p5, args = #[v1, v2, v3, v4, v5] ∧ ds = [d1, d2, d3, d4, d5] ∧ ps = p1 ++ p2 ++ p3 ++ p4 ++ p5 ∧
      DataW.Trod enc P w base spare held t1 v1 d1 p1 ∧ DataW.Trod enc P w base spare held t2 v2 d2 p2 ∧ DataW.Trod enc P w base spare held t3 v3 d3 p3 ∧ DataW.Trod enc P w base spare held t4 v4 d4 p4 ∧ DataW.Trod enc P w base spare held t5 v5 d5 p5 := by
  obtain ⟨v1, vs1, d1, ds1, p1, q1, e1, rfl, rfl, h1, h⟩ := trodAll_cons h
  obtain ⟨v2, vs2, d2, ds2, p2, q2, rfl, rfl, rfl, h2, h⟩ := trodAll_cons h
  obtain ⟨v3, vs3, d3, ds3, p3, q3, rfl, rfl, rfl, h3, h⟩ := trodAll_cons h
  obtain ⟨v4, vs4, d4, ds4, p4, q4, rfl, rfl, rfl, h4, h⟩ := trodAll_cons h
  obtain ⟨v5, vs5, d5, ds5, p5, q5, rfl, rfl, rfl, h5, h⟩ := trodAll_cons h
  obtain ⟨rfl, rfl, rfl⟩ := trodAll_nil h
  exact ⟨v1, v2, v3, v4, v5, d1, d2, d3, d4, d5, p1, p2, p3, p4, p5, by cases args; simp_all, rfl, by simp, h1, h2, h3, h4, h5⟩
theorem trodAll_ten {H : Type} {enc : TypeId × Value → H} {P : Program} {w : World} {base : Nat} {spare : Nat → Bool} {held : Bool} {t1 t2 t3 t4 t5 t6 t7 t8 t9 t10 : TypeId} {args : Array Value} {ds : List (DataW H)} {ps : List MemPlace}
    (h : DataW.TrodAll enc P w base spare held [t1, t2, t3, t4, t5, t6, t7, t8, t9, t10] args.toList ds ps) : ∃ v1 v2 v3 v4 v5 v6 v7 v8 v9 v10 d1 d2 d3 d4 d5 d6 d7 d8 d9 d10 p1 p2 p3 p4 p5 p6 p7 p8 p9 p10, args = #[v1, v2, v3, v4, v5, v6, v7, v8, v9, v10] ∧ ds = [d1, d2, d3, d4, d5, d6, d7, d8, d9, d10] ∧ ps = p1 ++ p2 ++ p3 ++ p4 ++ p5 ++ p6 ++ p7 ++ p8 ++ p9 ++ p10 ∧
      DataW.Trod enc P w base spare held t1 v1 d1 p1 ∧ DataW.Trod enc P w base spare held t2 v2 d2 p2 ∧ DataW.Trod enc P w base spare held t3 v3 d3 p3 ∧ DataW.Trod enc P w base spare held t4 v4 d4 p4 ∧ DataW.Trod enc P w base spare held t5 v5 d5 p5 ∧ DataW.Trod enc P w base spare held t6 v6 d6 p6 ∧ DataW.Trod enc P w base spare held t7 v7 d7 p7 ∧ DataW.Trod enc P w base spare held t8 v8 d8 p8 ∧ DataW.Trod enc P w base spare held t9 v9 d9 p9 ∧ DataW.Trod enc P w base spare held t10 v10 d10 p10 := by
  obtain ⟨v1, vs1, d1, ds1, p1, q1, e1, rfl, rfl, h1, h⟩ := trodAll_cons h
  obtain ⟨v2, vs2, d2, ds2, p2, q2, rfl, rfl, rfl, h2, h⟩ := trodAll_cons h
  obtain ⟨v3, vs3, d3, ds3, p3, q3, rfl, rfl, rfl, h3, h⟩ := trodAll_cons h
  obtain ⟨v4, vs4, d4, ds4, p4, q4, rfl, rfl, rfl, h4, h⟩ := trodAll_cons h
  obtain ⟨v5, vs5, d5, ds5, p5, q5, rfl, rfl, rfl, h5, h⟩ := trodAll_cons h
  obtain ⟨v6, vs6, d6, ds6, p6, q6, rfl, rfl, rfl, h6, h⟩ := trodAll_cons h
  obtain ⟨v7, vs7, d7, ds7, p7, q7, rfl, rfl, rfl, h7, h⟩ := trodAll_cons h
  obtain ⟨v8, vs8, d8, ds8, p8, q8, rfl, rfl, rfl, h8, h⟩ := trodAll_cons h
  obtain ⟨v9, vs9, d9, ds9, p9, q9, rfl, rfl, rfl, h9, h⟩ := trodAll_cons h
  obtain ⟨v10, vs10, d10, ds10, p10, q10, rfl, rfl, rfl, h10, h⟩ := trodAll_cons h
  obtain ⟨rfl, rfl, rfl⟩ := trodAll_nil h
  exact ⟨v1, v2, v3, v4, v5, v6, v7, v8, v9, v10, d1, d2, d3, d4, d5, d6, d7, d8, d9, d10, p1, p2, p3, p4, p5, p6, p7, p8, p9, p10, by cases args; simp_all, rfl, by simp, h1, h2, h3, h4, h5, h6, h7, h8, h9, h10⟩
end Go.Proofs.Ytenhghkiapkejaa
namespace Go.Proofs.Ytenhghkiapkejaa
open Go.ChangeShapes Go.WideShapes Go.ChangeAt Go.RowKit
set_option maxHeartbeats 1600000 in
set_option maxRecDepth 100000 in
theorem clocksMatchReference_lifted (os : Os) (started : os.Started) (H : Type) (enc : TypeId × Value → H) :
    ReturnsInHanded {} Try.checked os 4 .any (Rows.stampClocksMatchReferenceSpec.pre6 enc Try.prog Try.f4 Rows.stampClocksMatchReferenceRow.domain false) (Rows.stampClocksMatchReferenceSpec.post enc Try.prog Try.f4 false true false false) := by
  refine returnsInHanded_of_change (C := Try.checked) Try.own started (by kernel_rfl) Try.func4
    (ChangeSpec.witness6 (enc := enc) (C := Try.checked) false ⟨#[], #[.slice none 0 0, .slice none 0 0, .agg #[.int .i64 0, .int .i64 0, .int .i64 0], .agg #[.int .i64 0, .int .i64 0, .int .i64 0, .int .i64 0], .int .i64 0, .agg #[.int .i64 0, .int .i64 0, .int .i64 0], .agg #[.int .i64 0, .int .i64 0, .int .i64 0], .agg #[.int .i64 0, .int .i64 0, .int .i64 0], .int .i64 0, .int .i64 0], []⟩ 8 (by kernel_rfl) (by kernel_rfl) (by kernel_rfl) (by kernel_rfl)) ?_
  intro W base args ds gs before hval0 hW _ _
  have hval : ∀ (j : Nat) t v, Try.f4.params[j]? = some t → args[j]? = some v → Value.okWide Try.prog W .any base t v := hval0
  have hW' := hW
  obtain ⟨p, q, hA0, hV, rfl, hfz, hnd⟩ := hW
  have hA : DataW.TrodAll enc Try.prog W 0 (fun _ => true) true Try.f4.params.toList args.toList ds p := hA0
  have hA1 := hA
  rw [Try.params4] at hA hval
  obtain ⟨v0, v1, v2, v3, v4, v5, v6, v7, v8, v9, d0, d1, d2, d3, d4, d5, d6, d7, d8, d9, p0, p1, p2, p3, p4, p5, p6, p7, p8, p9, rfl, rfl, rfl, h0, h1, h2, h3, h4, h5, h6, h7, h8, h9⟩ := trodAll_ten hA
  obtain ⟨rfl, rfl⟩ := trodVars_none hV
  obtain ⟨A0, x0, c0, rfl, hn0, hc0, hw0, hr0⟩ := open_sl2 (hval 0 39 v0 rfl rfl) h0
  obtain ⟨A1, x1, c1, rfl, hn1, hc1, hw1, hr1⟩ := open_sl3 (hval 1 22 v1 rfl rfl) h1
  obtain ⟨a2, rfl, hz2⟩ := open_sk (hval 2 41 v2 rfl rfl) h2
  obtain ⟨a3, rfl, hz3⟩ := open_mt (hval 3 43 v3 rfl rfl) h3
  obtain ⟨n4, rfl, rfl, rfl, w4⟩ := open_int Try.underlying3 (hval 4 3 v4 rfl rfl) h4
  obtain ⟨a5, rfl, hz5⟩ := open_ar3 (hval 5 31 v5 rfl rfl) h5
  obtain ⟨a6, rfl, hz6⟩ := open_ar3 (hval 6 31 v6 rfl rfl) h6
  obtain ⟨a7, rfl, hz7⟩ := open_st (hval 7 24 v7 rfl rfl) h7
  obtain ⟨n8, rfl, rfl, rfl, w8⟩ := open_int Try.underlying3 (hval 8 3 v8 rfl rfl) h8
  obtain ⟨n9, rfl, rfl, rfl, w9⟩ := open_int Try.underlying3 (hval 9 3 v9 rfl rfl) h9
  refine (f4 (f10 f13) A0 A1 x0 x1 c0 c1 a2 a3 n4 a5 a6 a7 n8 n9 W hn0 hc0 hn1 hc1 hw0 hw1 (wf_of w4) hz5 hz6 (wf_of w8) (wf_of w9) hr0 hr1).mono fun e W' ⟨he, hB⟩ => ?_
  subst he
  refine ⟨_, rfl, _, _, _, [], _, [], hW', ?_, below_all hB ?_ hA1, rfl, hB.frame _, fun h => by cases h⟩
  · exact trodAll_mk1 (shut_bool Try.underlying4 true)
  · rw [Try.params4]
    intro t ht
    simp only [List.mem_cons, List.not_mem_nil, or_false] at ht
    rcases ht with rfl | rfl | rfl | rfl | rfl | rfl | rfl | rfl | rfl | rfl <;> exact ⟨by kernel_rfl, of_decide_eq_true (by kernel_rfl)⟩
/-- StampClocksMatchReference: whatever the input, true; the input reads as it did. -/
theorem clocksMatchReference_holds : Rows.StampClocksMatchReferenceSaid :=
  OpenClaim.holds_of_wide (p := Try.pinned) (s := Rows.stampClocksMatchReferenceSpec) (c := Rows.stampClocksMatchReferenceRow) 4 Try.f4 rfl rfl rfl rfl rfl rfl rfl ⟨rfl, rfl, rfl, rfl, rfl⟩ rfl rfl rfl rfl rfl (by kernel_rfl) Try.func4 (by kernel_rfl)
    (of_decide_eq_true (by kernel_rfl)) (by unfold Func.isWrapper; first | (rw [if_pos (by decide +kernel)]; kernel_rfl) | (rw [if_neg (by decide +kernel)]; exact ⟨rfl, rfl⟩))
    (fun os started H enc _ => clocksMatchReference_lifted os started H enc)
end Go.Proofs.Ytenhghkiapkejaa
#print axioms Go.Proofs.Ytenhghkiapkejaa.clocksMatchReference_holds
