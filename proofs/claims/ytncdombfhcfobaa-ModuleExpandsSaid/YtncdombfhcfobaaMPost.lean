/- Reading the arguments, and that they read afterwards as before. -/
import Derived.Test.YtncdombfhcfobaaM22
import Derived.Test.YtncdombfhcfobaaRows
import Derived.ProofKit
import Derived.Deep.Slices
import Derived.OpenShut
import Derived.ChangeArms
import Derived.Carry
namespace Go.Proofs.Ytncdombfhcfobaa
open Go.ChangeShapes Go.WideShapes Go.ChangeAt Go.RowKit Go.Deep
theorem Try.own : ownKnob Try.prog.godebug = none := by kernel_rfl
theorem Try.laidOut : laidOutB Try.prog = true := by kernel_rfl
theorem Try.cells80 : Try.prog.cellsOf 80 = 3 := by kernel_rfl
theorem Try.cells3 : Try.prog.cellsOf 3 = 1 := by kernel_rfl
theorem pick_list {α : Type} {R : Nat → α → Prop} : ∀ n, (∀ i, i < n → ∃ s, R i s) → ∃ l : List α, l.length = n ∧ ∀ i (h : i < l.length), R i l[i]
  | 0, _ => ⟨[], rfl, fun i h => absurd h (by simp)⟩
  | n + 1, h => by
    obtain ⟨l, hl, hr⟩ := pick_list n (fun i hi => h i (by omega))
    obtain ⟨s, hs⟩ := h n (by omega)
    refine ⟨l ++ [s], by simp [hl], fun i hi => ?_⟩
    by_cases h1 : i < l.length
    · rw [List.getElem_append_left h1]; exact hr i h1
    · have : i = n := by simp at hi; omega
      subst this
      rw [List.getElem_append_right (by omega)]
      simpa [hl] using hs
theorem slr_of {α : Type} {w : World} {b off B k : Nat} (enc : α → List Value) (hk : 0 < k) (hm : ∀ a, (enc a).length = k) (x : List α) (hb : b < B)
    (h : ∀ i (hi : i < x.length) j, j < k → w.cell? ⟨b, off + (i * k + j), none⟩ = (enc x[i])[j]?) : SlR w B k (some ⟨b, off, none⟩) x.length (x.flatMap enc) := by
  refine ⟨flat_len enc k hm x, fun _ => ⟨b, off, rfl, hb, fun j u hu => ?_⟩⟩
  have hj : j < (x.flatMap enc).length := (List.getElem?_eq_some_iff.1 hu).1
  rw [flat_len enc k hm] at hj
  have h1 : j / k < x.length := Nat.div_lt_of_lt_mul (by rw [Nat.mul_comm]; exact hj)
  have h2 : j % k < k := Nat.mod_lt _ hk
  have e : j / k * k + j % k = j := by rw [Nat.mul_comm]; exact Nat.div_add_mod j k
  have g := flat_get enc k hm x (j / k) h1 (j % k) h2
  have c := h (j / k) h1 (j % k) h2
  rw [e] at g c
  rw [c, ← g, hu]
theorem below_all {H : Type} {enc : TypeId × Value → H} {W W' : World} (hb : Below W.heap.size W W') : ∀ {ts : List TypeId} {vs : List Value} {ds : List (DataW H)} {ps : List MemPlace},
    (∀ t ∈ ts, Try.prog.readableRec t = true ∧ t < Try.prog.types.size) → DataW.TrodAll enc Try.prog W 0 (fun _ => true) true ts vs ds ps → DataW.TrodAll enc Try.prog W' 0 (fun b => decide (b < W.heap.size)) true ts vs ds ps
  | [], _, _, _, _, h => by
    obtain ⟨rfl, rfl, rfl⟩ := trodAll_nil h
    exact trodAll_mk0
  | t :: ts, _, _, _, hts, h => by
    have hlt := h.lt
    obtain ⟨v, vs, d, ds, p, q, rfl, rfl, rfl, h1, h2⟩ := trodAll_cons h
    have k1 := Below.trod Try.laidOut (hts t (by simp)).1 (hts t (by simp)).2 h1 hb (fun x hx => hlt x (List.mem_append_left _ hx))
    exact ⟨p, q, k1, below_all hb (fun t ht => hts t (List.mem_cons_of_mem _ ht)) h2, rfl⟩
theorem wf_of {n : Int} (h : (Lit.int .i64 n).wf = true) : okN n := by
  have h1 : IntKind.i64.min = -9223372036854775808 := by decide
  have h2 : IntKind.i64.max = 9223372036854775807 := by decide
  simp only [Lit.wf, Bool.and_eq_true, decide_eq_true_eq, h1, h2] at h
  exact h
section
variable {H : Type} {enc : TypeId × Value → H} {W : World} {base : Nat}
set_option maxRecDepth 100000 in
theorem open_sl3 {v : Value} {d : DataW H} {ps : List MemPlace} (hval : Value.okWide Try.prog W .any base 22 v) (h : DataW.Trod enc Try.prog W 0 (fun _ => true) true 22 v d ps) :
    ∃ (A : Option Addr) (x : List I3) (c : Nat), v = .slice A x.length c ∧ x.length ≤ c ∧ c ≤ 9223372036854775807 ∧ (∀ s ∈ x, okN s.1 ∧ okN s.2.1 ∧ okN s.2.2) ∧ SlR W W.heap.size 3 A x.length (x.flatMap c3) := by
  obtain ⟨a, len, cap, rfl⟩ := okWide_slice Try.underlying22 hval
  obtain ⟨fuel, hf⟩ := h
  rcases open_slice Try.underlying22 hf with ⟨h0, _⟩ | ⟨a', len', cap', m, n, D, Pl, hcs, _, hl, hm, hmm, hx, hi⟩
  · simp [Value.cells] at h0
    obtain ⟨rfl, rfl, rfl⟩ := h0
    exact ⟨none, [], 0, rfl, by simp, by omega, by simp, SlR.nil⟩
  · simp [Value.cells] at hcs
    obtain ⟨rfl, rfl, rfl⟩ := hcs
    simp only [if_true] at hmm
    subst hmm
    rw [Try.cells80] at hi
    have key : ∀ i, i < len → ∃ s : I3, (okN s.1 ∧ okN s.2.1 ∧ okN s.2.2) ∧ W.cell? (a'.add (i * 3)) = some (.int .i64 s.1) ∧ W.cell? ((a'.add (i * 3)).add 1) = some (.int .i64 s.2.1) ∧ W.cell? ((a'.add (i * 3)).add 2) = some (.int .i64 s.2.2) := by
      intro i hil
      obtain ⟨cs', hc, ht'⟩ := hi i (by omega)
      obtain ⟨_, hcl, hat⟩ := World.cells?_some hc
      obtain ⟨xs, m', _, _, _, hxl, hel⟩ := DataW.trod_array Try.underlying80 ht'
      match cs', hcl with
      | [u0, u1, u2], _ =>
        have e0 := hel 0 (by omega)
        have e1 := hel 1 (by omega)
        have e2 := hel 2 (by omega)
        rw [Try.cells3] at e0 e1 e2
        simp only [Nat.mul_one, List.drop_zero, List.drop_succ_cons, List.take_succ_cons, List.take_zero] at e0 e1 e2
        rw [List.getElem?_eq_getElem (by omega)] at e0 e1 e2
        obtain ⟨n0, h0, _, w0⟩ := DataW.trod_int Try.underlying3 e0
        obtain ⟨n1, h1, _, w1⟩ := DataW.trod_int Try.underlying3 e1
        obtain ⟨n2, h2, _, w2⟩ := DataW.trod_int Try.underlying3 e2
        simp at h0 h1 h2
        subst h0; subst h1; subst h2
        refine ⟨(n0, n1, n2), ⟨wf_of w0, wf_of w1, wf_of w2⟩, ?_, ?_, ?_⟩
        · have := hat 0 (by omega); simpa [Addr.add] using this
        · have := hat 1 (by omega); simpa using this
        · have := hat 2 (by omega); simpa using this
    obtain ⟨x, hxl, hxk⟩ := pick_list len key
    subst hxl
    refine ⟨some a', x, _, rfl, hl, by simpa [maxLen] using hm, fun s hs => ?_, ?_⟩
    · obtain ⟨i, hi', rfl⟩ := List.getElem_of_mem hs
      exact (hxk i hi').1
    · rcases Nat.eq_zero_or_pos x.length with h0 | h0
      · have : x = [] := List.eq_nil_of_length_eq_zero h0
        subst this
        exact SlR.nil
      · obtain ⟨b, off, spot⟩ := a'
        have c0 := (hxk 0 h0).2.1
        have hbl := World.block_lt_of_cell? W _ c0
        simp only [Nat.zero_mul, Addr.add, if_true] at c0 hbl
        have hsp : spot = none := by
          unfold World.cell? at c0
          cases spot with
          | none => rfl
          | some s => split at c0 <;> simp at c0
        subst hsp
        refine slr_of c3 (by omega) (fun _ => rfl) x hbl fun i hi' j hj => ?_
        obtain ⟨_, k0, k1, k2⟩ := hxk i hi'
        have ea : (⟨b, off, none⟩ : Addr).add (i * 3) = ⟨b, off + i * 3, none⟩ := by unfold Addr.add; split <;> simp_all
        rw [ea] at k0 k1 k2
        match j, hj with
        | 0, _ => simpa [c3] using k0
        | 1, _ => simpa [c3, Addr.add, Nat.add_assoc] using k1
        | 2, _ => simpa [c3, Addr.add, Nat.add_assoc] using k2
end
end Go.Proofs.Ytncdombfhcfobaa
