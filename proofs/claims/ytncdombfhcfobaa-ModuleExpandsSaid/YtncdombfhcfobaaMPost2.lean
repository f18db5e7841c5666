/- A law's arguments, opened: lists of lists of triples, pairs of integers, integers; five and six arguments. -/
import Derived.Test.YtncdombfhcfobaaMPost
import Derived.Test.YtncdombfhcfobaaM23
import Derived.Laws.IdiomArrays
import Derived.Lib.SmallJoins
namespace Go.Proofs.Ytncdombfhcfobaa
open Go.ChangeShapes Go.WideShapes Go.ChangeAt Go.RowKit Go.Deep
theorem Try.cells22 : Try.prog.cellsOf 22 = 1 := by kernel_rfl
theorem Try.cells56 : Try.prog.cellsOf 56 = 2 := by kernel_rfl
section
variable {H : Type} {enc : TypeId × Value → H} {W : World} {base : Nat}
set_option maxRecDepth 100000 in
theorem open_row3 {fuel : Nat} {cs : List Value} {x : DataW H × List MemPlace} (hf : DataW.trod enc Try.prog W 0 (fun _ => true) true fuel 22 cs = some x) :
    ∃ (A : Option Addr) (x : List I3) (c : Nat), cs = [.slice A x.length c] ∧ x.length ≤ c ∧ c ≤ 9223372036854775807 ∧ (∀ s ∈ x, okN s.1 ∧ okN s.2.1 ∧ okN s.2.2) ∧ SlR W W.heap.size 3 A x.length (x.flatMap c3) := by
  rcases open_slice Try.underlying22 hf with ⟨h0, _⟩ | ⟨a', len, cap, m, n, D, Pl, hcs, _, hl, hm, hmm, hx, hi⟩
  · exact ⟨none, [], 0, h0, by simp, by omega, by simp, SlR.nil⟩
  · subst hcs
    simp only [if_true] at hmm
    subst hmm
    rw [Try.cells80] at hi
    have key : ∀ i, i < len → ∃ s : I3, (okN s.1 ∧ okN s.2.1 ∧ okN s.2.2) ∧ W.cell? (a'.add (i * 3)) = some (.int .i64 s.1) ∧ W.cell? ((a'.add (i * 3)).add 1) = some (.int .i64 s.2.1) ∧ W.cell? ((a'.add (i * 3)).add 2) = some (.int .i64 s.2.2) := by
      intro i hil
      obtain ⟨cs', hc, ht'⟩ := hi i (by omega)
      obtain ⟨_, hcl, hat⟩ := World.cells?_some hc
      obtain ⟨xs, m', _, _, _, hxl, hel⟩ := DataW.trod_array Try.underlying80 ht'
      match cs', hcl with
      | [u0, u1, u2], _ =>
        have e0 := hel 0 (by omega)
        have e1 := hel 1 (by omega)
        have e2 := hel 2 (by omega)
        rw [Try.cells3] at e0 e1 e2
        simp only [Nat.mul_one, List.drop_zero, List.drop_succ_cons, List.take_succ_cons, List.take_zero] at e0 e1 e2
        rw [List.getElem?_eq_getElem (by omega)] at e0 e1 e2
        obtain ⟨n0, h0, _, w0⟩ := DataW.trod_int Try.underlying3 e0
        obtain ⟨n1, h1, _, w1⟩ := DataW.trod_int Try.underlying3 e1
        obtain ⟨n2, h2, _, w2⟩ := DataW.trod_int Try.underlying3 e2
        simp at h0 h1 h2
        subst h0; subst h1; subst h2
        refine ⟨(n0, n1, n2), ⟨wf_of w0, wf_of w1, wf_of w2⟩, ?_, ?_, ?_⟩
        · have := hat 0 (by omega); simpa [Addr.add] using this
        · have := hat 1 (by omega); simpa using this
        · have := hat 2 (by omega); simpa using this
    obtain ⟨x, hxl, hxk⟩ := pick_list len key
    subst hxl
    refine ⟨some a', x, _, rfl, hl, by simpa [maxLen] using hm, fun s hs => ?_, ?_⟩
    · obtain ⟨i, hi', rfl⟩ := List.getElem_of_mem hs
      exact (hxk i hi').1
    · rcases Nat.eq_zero_or_pos x.length with h0 | h0
      · have : x = [] := List.eq_nil_of_length_eq_zero h0
        subst this
        exact SlR.nil
      · obtain ⟨b, off, spot⟩ := a'
        have c0 := (hxk 0 h0).2.1
        have hbl := World.block_lt_of_cell? W _ c0
        simp only [Nat.zero_mul, Addr.add, if_true] at c0 hbl
        have hsp : spot = none := by
          unfold World.cell? at c0
          cases spot with
          | none => rfl
          | some s => split at c0 <;> simp at c0
        subst hsp
        refine slr_of c3 (by omega) (fun _ => rfl) x hbl fun i hi' j hj => ?_
        obtain ⟨_, k0, k1, k2⟩ := hxk i hi'
        have ea : (⟨b, off, none⟩ : Addr).add (i * 3) = ⟨b, off + i * 3, none⟩ := by unfold Addr.add; split <;> simp_all
        rw [ea] at k0 k1 k2
        match j, hj with
        | 0, _ => simpa [c3] using k0
        | 1, _ => simpa [c3, Addr.add, Nat.add_assoc] using k1
        | 2, _ => simpa [c3, Addr.add, Nat.add_assoc] using k2
set_option maxRecDepth 100000 in
/-- a list of lists of triples -/
theorem open_sl33 {v : Value} {d : DataW H} {ps : List MemPlace} (hval : Value.okWide Try.prog W .any base 41 v) (h : DataW.Trod enc Try.prog W 0 (fun _ => true) true 41 v d ps) :
    ∃ (A : Option Addr) (n c : Nat) (rows : List XR) (xs : List (List I3)), v = .slice A n c ∧ n ≤ c ∧ c ≤ 9223372036854775807 ∧ SlR W W.heap.size 1 A n (rows.flatMap cX) ∧ Xss W rows xs := by
  obtain ⟨a, len, cap, rfl⟩ := okWide_slice Try.underlying41 hval
  obtain ⟨fuel, hf⟩ := h
  rcases open_slice1 Try.underlying41 Try.cells22 hf with ⟨h0, _⟩ | ⟨a', len', cap', m, n, V, D, Pl, hcs, _, hl, hm, hmm, hx, hi⟩
  · simp [Value.cells] at h0
    obtain ⟨rfl, rfl, rfl⟩ := h0
    exact ⟨none, 0, 0, [], [], rfl, by simp, by omega, SlR.nil, rfl, fun k h => absurd h (by simp)⟩
  · simp [Value.cells] at hcs
    obtain ⟨rfl, rfl, rfl⟩ := hcs
    simp only [if_true] at hmm
    subst hmm
    have key : ∀ i, i < len → ∃ s : XR × List I3, W.cell? (a'.add i) = some (.slice s.1.a s.1.n s.1.c) ∧ s.1.n ≤ 9223372036854775807 ∧ SlR W W.heap.size 3 s.1.a s.1.n (s.2.flatMap c3) ∧ ∀ t ∈ s.2, ok3 t := by
      intro i hil
      obtain ⟨hc, ht'⟩ := hi i (by omega)
      obtain ⟨A, x, c, e, q1, q2, q3, q4⟩ := open_row3 ht'
      simp only [List.cons.injEq, and_true] at e
      exact ⟨(⟨A, x.length, c⟩, x), by rw [hc, e], by dsimp only; omega, q4, q3⟩
    obtain ⟨x, hxl, hxk⟩ := pick_list len key
    subst hxl
    refine ⟨some a', x.length, _, x.map (·.1), x.map (·.2), rfl, hl, by simpa [maxLen] using hm, ?_, by simp, fun k h1 h2 => ?_⟩
    · rcases Nat.eq_zero_or_pos x.length with h0 | h0
      · have : x = [] := List.eq_nil_of_length_eq_zero h0
        subst this
        exact SlR.nil
      · obtain ⟨b, off, spot⟩ := a'
        have c0 := (hxk 0 h0).1
        have hbl := World.block_lt_of_cell? W _ c0
        simp only [Addr.add, if_true] at c0 hbl
        have hsp : spot = none := by
          unfold World.cell? at c0
          cases spot with
          | none => rfl
          | some s => split at c0 <;> simp at c0
        subst hsp
        have := slr_of (w := W) (k := 1) cX (by omega) (fun _ => rfl) (x.map (·.1)) hbl fun i hi' j hj => by
          have hi2 : i < x.length := by simpa using hi'
          have k0 := (hxk i hi2).1
          have ea : (⟨b, off, none⟩ : Addr).add i = ⟨b, off + i, none⟩ := by unfold Addr.add; split <;> simp_all
          rw [ea] at k0
          obtain rfl : j = 0 := by omega
          simpa [cX] using k0
        simpa using this
    · have hk : k < x.length := by simpa using h1
      simp only [List.getElem_map]
      exact (hxk k hk).2
set_option maxRecDepth 100000 in
theorem open_ar2 {v : Value} {d : DataW H} {ps : List MemPlace} (hval : Value.okWide Try.prog W .any base 56 v) (h : DataW.Trod enc Try.prog W 0 (fun _ => true) true 56 v d ps) :
    ∃ a : I2, v = .agg #[.int .i64 a.1, .int .i64 a.2] ∧ (okN a.1 ∧ okN a.2) := by
  unfold Value.okWide at hval
  rw [Try.underlying56] at hval
  obtain ⟨cs, rfl, hsz, _⟩ := hval
  rw [Try.cells56] at hsz
  obtain ⟨fuel, hf⟩ := h
  obtain ⟨l⟩ := cs
  match l, hsz with
  | [u0, u1], _ =>
    have hf : DataW.trod enc Try.prog W 0 (fun _ => true) true fuel 56 [u0, u1] = some (d, ps) := hf
    obtain ⟨xs, m', _, _, _, hxl, hel⟩ := DataW.trod_array Try.underlying56 hf
    have e0 := hel 0 (by omega)
    have e1 := hel 1 (by omega)
    rw [Try.cells3] at e0 e1
    simp only [Nat.mul_one, List.drop_zero, List.drop_succ_cons, List.take_succ_cons, List.take_zero] at e0 e1
    rw [List.getElem?_eq_getElem (by omega)] at e0 e1
    obtain ⟨n0, h0, _, w0⟩ := DataW.trod_int Try.underlying3 e0
    obtain ⟨n1, h1, _, w1⟩ := DataW.trod_int Try.underlying3 e1
    simp at h0 h1
    subst h0; subst h1
    exact ⟨(n0, n1), rfl, wf_of w0, wf_of w1⟩
end
theorem trodAll_five' {H : Type} {enc : TypeId × Value → H} {P : Program} {w : World} {base : Nat} {spare : Nat → Bool} {held : Bool} {t1 t2 t3 t4 t5 : TypeId} {args : Array Value} {ds : List (DataW H)} {ps : List MemPlace}
    (h : DataW.TrodAll enc P w base spare held [t1, t2, t3, t4, t5] args.toList ds ps) : ∃ v1 v2 v3 v4 v5 d1 d2 d3 d4 d5 p1 p2 p3 p4 p5, args = #[v1, v2, v3, v4, v5] ∧ ds = [d1, d2, d3, d4, d5] ∧ ps = p1 ++ p2 ++ p3 ++ p4 ++ p5 ∧
      DataW.Trod enc P w base spare held t1 v1 d1 p1 ∧ DataW.Trod enc P w base spare held t2 v2 d2 p2 ∧ DataW.Trod enc P w base spare held t3 v3 d3 p3 ∧ DataW.Trod enc P w base spare held t4 v4 d4 p4 ∧ DataW.Trod enc P w base spare held t5 v5 d5 p5 := by
  obtain ⟨v1, vs1, d1, ds1, p1, q1, e1, rfl, rfl, h1, h⟩ := trodAll_cons h
  obtain ⟨v2, vs2, d2, ds2, p2, q2, rfl, rfl, rfl, h2, h⟩ := trodAll_cons h
  obtain ⟨v3, vs3, d3, ds3, p3, q3, rfl, rfl, rfl, h3, h⟩ := trodAll_cons h
  obtain ⟨v4, vs4, d4, ds4, p4, q4, rfl, rfl, rfl, h4, h⟩ := trodAll_cons h
  obtain ⟨v5, vs5, d5, ds5, p5, q5, rfl, rfl, rfl, h5, h⟩ := trodAll_cons h
  obtain ⟨rfl, rfl, rfl⟩ := trodAll_nil h
  exact ⟨v1, v2, v3, v4, v5, d1, d2, d3, d4, d5, p1, p2, p3, p4, p5, by cases args; simp_all, rfl, by simp, h1, h2, h3, h4, h5⟩
theorem trodAll_six' {H : Type} {enc : TypeId × Value → H} {P : Program} {w : World} {base : Nat} {spare : Nat → Bool} {held : Bool} {t1 t2 t3 t4 t5 t6 : TypeId} {args : Array Value} {ds : List (DataW H)} {ps : List MemPlace}
    (h : DataW.TrodAll enc P w base spare held [t1, t2, t3, t4, t5, t6] args.toList ds ps) : ∃ v1 v2 v3 v4 v5 v6 d1 d2 d3 d4 d5 d6 p1 p2 p3 p4 p5 p6, args = #[v1, v2, v3, v4, v5, v6] ∧ ds = [d1, d2, d3, d4, d5, d6] ∧ ps = p1 ++ p2 ++ p3 ++ p4 ++ p5 ++ p6 ∧
      DataW.Trod enc P w base spare held t1 v1 d1 p1 ∧ DataW.Trod enc P w base spare held t2 v2 d2 p2 ∧ DataW.Trod enc P w base spare held t3 v3 d3 p3 ∧ DataW.Trod enc P w base spare held t4 v4 d4 p4 ∧ DataW.Trod enc P w base spare held t5 v5 d5 p5 ∧ DataW.Trod enc P w base spare held t6 v6 d6 p6 := by
  obtain ⟨v1, vs1, d1, ds1, p1, q1, e1, rfl, rfl, h1, h⟩ := trodAll_cons h
  obtain ⟨v2, vs2, d2, ds2, p2, q2, rfl, rfl, rfl, h2, h⟩ := trodAll_cons h
  obtain ⟨v3, vs3, d3, ds3, p3, q3, rfl, rfl, rfl, h3, h⟩ := trodAll_cons h
  obtain ⟨v4, vs4, d4, ds4, p4, q4, rfl, rfl, rfl, h4, h⟩ := trodAll_cons h
  obtain ⟨v5, vs5, d5, ds5, p5, q5, rfl, rfl, rfl, h5, h⟩ := trodAll_cons h
  obtain ⟨v6, vs6, d6, ds6, p6, q6, rfl, rfl, rfl, h6, h⟩ := trodAll_cons h
  obtain ⟨rfl, rfl, rfl⟩ := trodAll_nil h
  exact ⟨v1, v2, v3, v4, v5, v6, d1, d2, d3, d4, d5, d6, p1, p2, p3, p4, p5, p6, by cases args; simp_all, rfl, by simp, h1, h2, h3, h4, h5, h6⟩
end Go.Proofs.Ytncdombfhcfobaa
