/- Reading the arguments, and that they read afterwards as before. -/
import Derived.Test.YtncdombfhcfobaaGreatM22
import Derived.Test.YtncdombfhcfobaaGreatRows
import Derived.ProofKit
import Derived.Deep.Slices
import Derived.OpenShut
import Derived.ChangeArms
import Derived.Carry
import Derived.Test.YtncdombfhcfobaaGreatM23
import Derived.Laws.IdiomArrays
import Derived.Lib.SmallJoins
namespace Go.Proofs.YtncdombfhcfobaaGreat
open Go.ChangeShapes Go.WideShapes Go.ChangeAt Go.RowKit Go.Deep
theorem Tryz.own : ownKnob Tryz.prog.godebug = none := by kernel_rfl
theorem Tryz.laidOut : laidOutB Tryz.prog = true := by kernel_rfl
theorem Tryz.cells79 : Tryz.prog.cellsOf 79 = 3 := by kernel_rfl
theorem Tryz.cells3 : Tryz.prog.cellsOf 3 = 1 := by kernel_rfl
theorem pick_list {α : Type} {R : Nat → α → Prop} : ∀ n, (∀ i, i < n → ∃ s, R i s) → ∃ l : List α, l.length = n ∧ ∀ i (h : i < l.length), R i l[i]
  | 0, _ => ⟨[], rfl, fun i h => absurd h (by simp)⟩
  | n + 1, h => by
    obtain ⟨l, hl, hr⟩ := pick_list n (fun i hi => h i (by omega))
    obtain ⟨s, hs⟩ := h n (by omega)
    refine ⟨l ++ [s], by simp [hl], fun i hi => ?_⟩
    by_cases h1 : i < l.length
    · rw [List.getElem_append_left h1]; exact hr i h1
    · have : i = n := by simp at hi; omega
      subst this
      rw [List.getElem_append_right (by omega)]
      simpa [hl] using hs
theorem slr_of {α : Type} {w : World} {b off B k : Nat} (enc : α → List Value) (hk : 0 < k) (hm : ∀ a, (enc a).length = k) (x : List α) (hb : b < B)
    (h : ∀ i (hi : i < x.length) j, j < k → w.cell? ⟨b, off + (i * k + j), none⟩ = (enc x[i])[j]?) : SlR w B k (some ⟨b, off, none⟩) x.length (x.flatMap enc) := by
  refine ⟨flat_len enc k hm x, fun _ => ⟨b, off, rfl, hb, fun j u hu => ?_⟩⟩
  have hj : j < (x.flatMap enc).length := (List.getElem?_eq_some_iff.1 hu).1
  rw [flat_len enc k hm] at hj
  have h1 : j / k < x.length := Nat.div_lt_of_lt_mul (by rw [Nat.mul_comm]; exact hj)
  have h2 : j % k < k := Nat.mod_lt _ hk
  have e : j / k * k + j % k = j := by rw [Nat.mul_comm]; exact Nat.div_add_mod j k
  have g := flat_get enc k hm x (j / k) h1 (j % k) h2
  have c := h (j / k) h1 (j % k) h2
  rw [e] at g c
  rw [c, ← g, hu]
theorem below_all {H : Type} {enc : TypeId × Value → H} {W W' : World} (hb : Below W.heap.size W W') : ∀ {ts : List TypeId} {vs : List Value} {ds : List (DataW H)} {ps : List MemPlace},
    (∀ t ∈ ts, Tryz.prog.readableRec t = true ∧ t < Tryz.prog.types.size) → DataW.TrodAll enc Tryz.prog W 0 (fun _ => true) true ts vs ds ps → DataW.TrodAll enc Tryz.prog W' 0 (fun b => decide (b < W.heap.size)) true ts vs ds ps
  | [], _, _, _, _, h => by
    obtain ⟨rfl, rfl, rfl⟩ := trodAll_nil h
    exact trodAll_mk0
  | t :: ts, _, _, _, hts, h => by
    have hlt := h.lt
    obtain ⟨v, vs, d, ds, p, q, rfl, rfl, rfl, h1, h2⟩ := trodAll_cons h
    have k1 := Below.trod Tryz.laidOut (hts t (by simp)).1 (hts t (by simp)).2 h1 hb (fun x hx => hlt x (List.mem_append_left _ hx))
    exact ⟨p, q, k1, below_all hb (fun t ht => hts t (List.mem_cons_of_mem _ ht)) h2, rfl⟩
theorem wf_of {n : Int} (h : (Lit.int .i64 n).wf = true) : okN n := by
  have h1 : IntKind.i64.min = -9223372036854775808 := by decide
  have h2 : IntKind.i64.max = 9223372036854775807 := by decide
  simp only [Lit.wf, Bool.and_eq_true, decide_eq_true_eq, h1, h2] at h
  exact h
section
variable {H : Type} {enc : TypeId × Value → H} {W : World} {base : Nat}
set_option maxRecDepth 100000 in
theorem open_sl3 {v : Value} {d : DataW H} {ps : List MemPlace} (hval : Value.okWide Tryz.prog W .any base 23 v) (h : DataW.Trod enc Tryz.prog W 0 (fun _ => true) true 23 v d ps) :
    ∃ (A : Option Addr) (x : List I3) (c : Nat), v = .slice A x.length c ∧ x.length ≤ c ∧ c ≤ 9223372036854775807 ∧ (∀ s ∈ x, okN s.1 ∧ okN s.2.1 ∧ okN s.2.2) ∧ SlR W W.heap.size 3 A x.length (x.flatMap c3) := by
  obtain ⟨a, len, cap, rfl⟩ := okWide_slice Tryz.underlying23 hval
  obtain ⟨fuel, hf⟩ := h
  rcases open_slice Tryz.underlying23 hf with ⟨h0, _⟩ | ⟨a', len', cap', m, n, D, Pl, hcs, _, hl, hm, hmm, hx, hi⟩
  · simp [Value.cells] at h0
    obtain ⟨rfl, rfl, rfl⟩ := h0
    exact ⟨none, [], 0, rfl, by simp, by omega, by simp, SlR.nil⟩
  · simp [Value.cells] at hcs
    obtain ⟨rfl, rfl, rfl⟩ := hcs
    simp only [if_true] at hmm
    subst hmm
    rw [Tryz.cells79] at hi
    have key : ∀ i, i < len → ∃ s : I3, (okN s.1 ∧ okN s.2.1 ∧ okN s.2.2) ∧ W.cell? (a'.add (i * 3)) = some (.int .i64 s.1) ∧ W.cell? ((a'.add (i * 3)).add 1) = some (.int .i64 s.2.1) ∧ W.cell? ((a'.add (i * 3)).add 2) = some (.int .i64 s.2.2) := by
      intro i hil
      obtain ⟨cs', hc, ht'⟩ := hi i (by omega)
      obtain ⟨_, hcl, hat⟩ := World.cells?_some hc
      obtain ⟨xs, m', _, _, _, hxl, hel⟩ := DataW.trod_array Tryz.underlying79 ht'
      match cs', hcl with
      | [u0, u1, u2], _ =>
        have e0 := hel 0 (by omega)
        have e1 := hel 1 (by omega)
        have e2 := hel 2 (by omega)
        rw [Tryz.cells3] at e0 e1 e2
        simp only [Nat.mul_one, List.drop_zero, List.drop_succ_cons, List.take_succ_cons, List.take_zero] at e0 e1 e2
        rw [List.getElem?_eq_getElem (by omega)] at e0 e1 e2
        obtain ⟨n0, h0, _, w0⟩ := DataW.trod_int Tryz.underlying3 e0
        obtain ⟨n1, h1, _, w1⟩ := DataW.trod_int Tryz.underlying3 e1
        obtain ⟨n2, h2, _, w2⟩ := DataW.trod_int Tryz.underlying3 e2
        simp at h0 h1 h2
        subst h0; subst h1; subst h2
        refine ⟨(n0, n1, n2), ⟨wf_of w0, wf_of w1, wf_of w2⟩, ?_, ?_, ?_⟩
        · have := hat 0 (by omega); simpa [Addr.add] using this
        · have := hat 1 (by omega); simpa using this
        · have := hat 2 (by omega); simpa using this
    obtain ⟨x, hxl, hxk⟩ := pick_list len key
    subst hxl
    refine ⟨some a', x, _, rfl, hl, by simpa [maxLen] using hm, fun s hs => ?_, ?_⟩
    · obtain ⟨i, hi', rfl⟩ := List.getElem_of_mem hs
      exact (hxk i hi').1
    · rcases Nat.eq_zero_or_pos x.length with h0 | h0
      · have : x = [] := List.eq_nil_of_length_eq_zero h0
        subst this
        exact SlR.nil
      · obtain ⟨b, off, spot⟩ := a'
        have c0 := (hxk 0 h0).2.1
        have hbl := World.block_lt_of_cell? W _ c0
        simp only [Nat.zero_mul, Addr.add, if_true] at c0 hbl
        have hsp : spot = none := by
          unfold World.cell? at c0
          cases spot with
          | none => rfl
          | some s => split at c0 <;> simp at c0
        subst hsp
        refine slr_of c3 (by omega) (fun _ => rfl) x hbl fun i hi' j hj => ?_
        obtain ⟨_, k0, k1, k2⟩ := hxk i hi'
        have ea : (⟨b, off, none⟩ : Addr).add (i * 3) = ⟨b, off + i * 3, none⟩ := by unfold Addr.add; split <;> simp_all
        rw [ea] at k0 k1 k2
        match j, hj with
        | 0, _ => simpa [c3] using k0
        | 1, _ => simpa [c3, Addr.add, Nat.add_assoc] using k1
        | 2, _ => simpa [c3, Addr.add, Nat.add_assoc] using k2
end
end Go.Proofs.YtncdombfhcfobaaGreat
/- A law's arguments, opened: items, instances, lists of modules; nine arguments. -/
namespace Go.Proofs.YtncdombfhcfobaaGreat
open Go.ChangeShapes Go.WideShapes Go.ChangeAt Go.RowKit Go.Deep
theorem Tryz.cells23 : Tryz.prog.cellsOf 23 = 1 := by kernel_rfl
theorem Tryz.cells27 : Tryz.prog.cellsOf 27 = 6 := by kernel_rfl
theorem Tryz.cells37 : Tryz.prog.cellsOf 37 = 2 := by kernel_rfl
theorem Tryz.cells25 : Tryz.prog.cellsOf 25 = 2 := by kernel_rfl
theorem Tryz.cells9 : Tryz.prog.cellsOf 9 = 1 := by kernel_rfl
theorem Tryz.cells29 : Tryz.prog.cellsOf 29 = 1 := by kernel_rfl
theorem Tryz.cells30 : Tryz.prog.cellsOf 30 = 1 := by kernel_rfl
theorem Tryz.cells32 : Tryz.prog.cellsOf 32 = 6 := by kernel_rfl
section
variable {H : Type} {enc : TypeId × Value → H} {W : World} {base : Nat}
/-- a slice whose elements lie in k cells each -/
theorem open_rowK {α : Type} {t e : TypeId} {k : Nat} (hk : 0 < k) (en : α → List Value) (hen : ∀ a, (en a).length = k) (Pr : α → Prop) (ht : Tryz.prog.underlying t = some (.slice e)) (hce : Tryz.prog.cellsOf e = k)
    (hel : ∀ (fuel : Nat) (cs : List Value) (x : DataW H × List MemPlace), DataW.trod enc Tryz.prog W 0 (fun _ => true) true fuel e cs = some x → ∃ s, cs = en s ∧ Pr s)
    {fuel : Nat} {cs : List Value} {x : DataW H × List MemPlace} (hf : DataW.trod enc Tryz.prog W 0 (fun _ => true) true fuel t cs = some x) :
    ∃ (A : Option Addr) (l : List α) (c : Nat), cs = [.slice A l.length c] ∧ l.length ≤ c ∧ c ≤ 9223372036854775807 ∧ (∀ s ∈ l, Pr s) ∧ SlR W W.heap.size k A l.length (l.flatMap en) := by
  rcases open_slice ht hf with ⟨h0, _⟩ | ⟨a', len, cap, m, n, D, Pl, hcs, _, hl, hm, hmm, hx, hi⟩
  · exact ⟨none, [], 0, h0, by simp, by omega, by simp, SlR.nil⟩
  · subst hcs
    simp only [if_true] at hmm
    subst hmm
    rw [hce] at hi
    have key : ∀ i, i < len → ∃ s : α, Pr s ∧ ∀ j, j < k → W.cell? ((a'.add (i * k)).add j) = (en s)[j]? := by
      intro i hil
      obtain ⟨cs', hc, ht'⟩ := hi i (by omega)
      obtain ⟨_, hcl, hat⟩ := World.cells?_some hc
      obtain ⟨s, rfl, hp⟩ := hel _ _ _ ht'
      exact ⟨s, hp, fun j hj => hat j (by omega)⟩
    obtain ⟨l, hxl, hxk⟩ := pick_list len key
    subst hxl
    refine ⟨some a', l, _, rfl, hl, by simpa [maxLen] using hm, fun s hs => ?_, ?_⟩
    · obtain ⟨i, hi', rfl⟩ := List.getElem_of_mem hs
      exact (hxk i hi').1
    · rcases Nat.eq_zero_or_pos l.length with h0 | h0
      · have : l = [] := List.eq_nil_of_length_eq_zero h0
        subst this
        exact SlR.nil
      · obtain ⟨b, off, spot⟩ := a'
        have c0 := (hxk 0 h0).2 0 hk
        have hlt : 0 < (en l[0]).length := by rw [hen]; exact hk
        rw [List.getElem?_eq_getElem hlt] at c0
        have hbl := World.block_lt_of_cell? W _ c0
        simp only [Nat.zero_mul, Addr.add, if_true] at c0 hbl
        have hsp : spot = none := by
          unfold World.cell? at c0
          cases spot with
          | none => rfl
          | some s => split at c0 <;> simp at c0
        subst hsp
        refine slr_of en hk hen l (by simpa using hbl) fun i hi' j hj => ?_
        have k0 := (hxk i hi').2 j hj
        have ea : ((⟨b, off, none⟩ : Addr).add (i * k)).add j = ⟨b, off + (i * k + j), none⟩ := by
          have e1 : (⟨b, off, none⟩ : Addr).add (i * k) = ⟨b, off + i * k, none⟩ := by unfold Addr.add; split <;> simp_all
          rw [e1]
          unfold Addr.add
          split <;> simp_all [Nat.add_assoc]
        rw [ea] at k0
        exact k0
set_option maxRecDepth 100000 in
theorem trod_it {fuel : Nat} {cs : List Value} {x : DataW H × List MemPlace} (h : DataW.trod enc Tryz.prog W 0 (fun _ => true) true fuel 27 cs = some x) : ∃ s : It, cs = cI s ∧ True := by
  obtain ⟨xs, m, _, _, hl, hxl, hel⟩ := DataW.trod_struct Tryz.underlying27 h
  rw [Tryz.cells27] at hl
  match cs, hl with
  | [u0, u1, u2, u3, u4, u5], _ =>
    have e0 := hel 0 _ rfl
    have e1 := hel 1 _ rfl
    have e2 := hel 2 _ rfl
    have e3 := hel 3 _ rfl
    have e4 := hel 4 _ rfl
    simp only [List.getElem_toArray, List.getElem_cons_succ, List.getElem_cons_zero] at e0 e1 e2 e3 e4
    rw [Tryz.cells3] at e0 e1 e4
    rw [Tryz.cells25] at e2
    rw [Tryz.cells9] at e3
    simp only [List.drop_zero, List.drop_succ_cons, List.take_succ_cons, List.take_zero] at e0 e1 e2 e3 e4
    simp only [List.size_toArray, List.length_cons, List.length_nil] at hxl
    rw [List.getElem?_eq_getElem (by omega)] at e0 e1 e2 e3 e4
    obtain ⟨n0, h0, _, _⟩ := DataW.trod_int Tryz.underlying3 e0
    obtain ⟨n1, h1, _, _⟩ := DataW.trod_int Tryz.underlying3 e1
    obtain ⟨n4, h4, _, _⟩ := DataW.trod_int Tryz.underlying3 e4
    obtain ⟨s3, h3, _, _⟩ := DataW.trod_string Tryz.underlying9 e3
    obtain ⟨ys, m2, _, _, _, hyl, hel2⟩ := DataW.trod_struct Tryz.underlying25 e2
    have f0 := hel2 0 _ rfl
    have f1 := hel2 1 _ rfl
    simp only [List.getElem_toArray, List.getElem_cons_succ, List.getElem_cons_zero] at f0 f1
    rw [Tryz.cells3] at f0 f1
    simp only [List.drop_zero, List.drop_succ_cons, List.take_succ_cons, List.take_zero] at f0 f1
    simp only [List.size_toArray, List.length_cons, List.length_nil] at hyl
    rw [List.getElem?_eq_getElem (by omega)] at f0 f1
    obtain ⟨n2, h2, _, _⟩ := DataW.trod_int Tryz.underlying3 f0
    obtain ⟨n3, h3', _, _⟩ := DataW.trod_int Tryz.underlying3 f1
    simp only [List.cons.injEq, and_true] at h0 h1 h2 h3 h3' h4
    subst h0; subst h1; subst h2; subst h3; subst h3'; subst h4
    exact ⟨⟨n0, n1, n2, n3, s3, n4⟩, rfl, trivial⟩
theorem open_rowI {fuel : Nat} {cs : List Value} {x : DataW H × List MemPlace} (h : DataW.trod enc Tryz.prog W 0 (fun _ => true) true fuel 29 cs = some x) :
    ∃ (A : Option Addr) (l : List It) (c : Nat), cs = [.slice A l.length c] ∧ l.length ≤ c ∧ c ≤ 9223372036854775807 ∧ SlR W W.heap.size 6 A l.length (l.flatMap cI) := by
  obtain ⟨A, l, c, h1, h2, h3, -, h4⟩ := open_rowK (k := 6) (by omega) cI (fun _ => rfl) (fun _ => True) Tryz.underlying29 Tryz.cells27 (fun fuel cs x hh => trod_it hh) h
  exact ⟨A, l, c, h1, h2, h3, h4⟩
theorem open_rowN {fuel : Nat} {cs : List Value} {x : DataW H × List MemPlace} (h : DataW.trod enc Tryz.prog W 0 (fun _ => true) true fuel 30 cs = some x) :
    ∃ (A : Option Addr) (l : List Int) (c : Nat), cs = [.slice A l.length c] ∧ l.length ≤ c ∧ c ≤ 9223372036854775807 ∧ SlR W W.heap.size 1 A l.length (l.flatMap cN) := by
  obtain ⟨A, l, c, h1, h2, h3, -, h4⟩ := open_rowK (k := 1) (by omega) cN (fun _ => rfl) (fun _ => True) Tryz.underlying30 Tryz.cells3 (fun fuel cs x hh => by
    obtain ⟨n, rfl, _, _⟩ := DataW.trod_int Tryz.underlying3 hh
    exact ⟨n, rfl, trivial⟩) h
  exact ⟨A, l, c, h1, h2, h3, h4⟩
set_option maxRecDepth 100000 in
theorem trod_mod {fuel : Nat} {cs : List Value} {x : DataW H × List MemPlace} (h : DataW.trod enc Tryz.prog W 0 (fun _ => true) true fuel 37 cs = some x) :
    ∃ s : MR × Mo, cs = cM s.1 ∧ (s.1.id = s.2.id ∧ s.1.n ≤ s.1.c ∧ s.1.c ≤ 9223372036854775807 ∧ SlR W W.heap.size 6 s.1.a s.1.n (s.2.items.flatMap cI)) := by
  obtain ⟨xs, m, _, _, hl, hxl, hel⟩ := DataW.trod_struct Tryz.underlying37 h
  rw [Tryz.cells37] at hl
  match cs, hl with
  | [u0, u1], _ =>
    have e0 := hel 0 _ rfl
    have e1 := hel 1 _ rfl
    simp only [List.getElem_toArray, List.getElem_cons_succ, List.getElem_cons_zero] at e0 e1
    rw [Tryz.cells3] at e0
    rw [Tryz.cells29] at e1
    simp only [List.drop_zero, List.drop_succ_cons, List.take_succ_cons, List.take_zero] at e0 e1
    simp only [List.size_toArray, List.length_cons, List.length_nil] at hxl
    rw [List.getElem?_eq_getElem (by omega)] at e0 e1
    obtain ⟨n0, h0, _, _⟩ := DataW.trod_int Tryz.underlying3 e0
    obtain ⟨A, l, c, h1, h2, h3, h4⟩ := open_rowI e1
    simp only [List.cons.injEq, and_true] at h0 h1
    subst h0; subst h1
    exact ⟨(⟨n0, A, l.length, c⟩, ⟨n0, l⟩), rfl, rfl, h2, h3, h4⟩
set_option maxRecDepth 100000 in
theorem open_mods {v : Value} {d : DataW H} {ps : List MemPlace} (hval : Value.okWide Tryz.prog W .any base 28 v) (h : DataW.Trod enc Tryz.prog W 0 (fun _ => true) true 28 v d ps) :
    ∃ (A : Option Addr) (n c : Nat) (rows : List MR) (ms : List Mo), v = .slice A n c ∧ n ≤ c ∧ c ≤ 9223372036854775807 ∧ SlR W W.heap.size 2 A n (rows.flatMap cM) ∧ Mods W rows ms := by
  obtain ⟨a, len, cap, rfl⟩ := okWide_slice Tryz.underlying28 hval
  obtain ⟨fuel, hf⟩ := h
  obtain ⟨A, l, c, h1, h2, h3, h4, h5⟩ := open_rowK (k := 2) (by omega) (fun s : MR × Mo => cM s.1) (fun _ => rfl) (fun s : MR × Mo => s.1.id = s.2.id ∧ s.1.n ≤ s.1.c ∧ s.1.c ≤ 9223372036854775807 ∧ SlR W W.heap.size 6 s.1.a s.1.n (s.2.items.flatMap cI)) Tryz.underlying28 Tryz.cells37 (fun fuel cs x hh => trod_mod hh) hf
  simp only [Value.cells, List.cons.injEq, and_true, Value.slice.injEq] at h1
  obtain ⟨rfl, rfl, rfl⟩ := h1
  refine ⟨_, _, _, l.map (·.1), l.map (·.2), rfl, h2, h3, by simpa [List.flatMap_map] using h5, by simp, fun k k1 k2 => ?_⟩
  have hk : k < l.length := by simpa using k1
  simp only [List.getElem_map]
  exact h4 _ (List.getElem_mem hk)
set_option maxRecDepth 100000 in
theorem open_itV {v : Value} {d : DataW H} {ps : List MemPlace} (hval : Value.okWide Tryz.prog W .any base 27 v) (h : DataW.Trod enc Tryz.prog W 0 (fun _ => true) true 27 v d ps) : ∃ s : It, v = itV s := by
  unfold Value.okWide at hval
  rw [Tryz.underlying27] at hval
  obtain ⟨cs, rfl, hsz, _⟩ := hval
  obtain ⟨fuel, hf⟩ := h
  obtain ⟨l⟩ := cs
  obtain ⟨s, hs, -⟩ := trod_it (show DataW.trod enc Tryz.prog W 0 (fun _ => true) true fuel 27 l = some (d, ps) from hf)
  exact ⟨s, by rw [hs]; rfl⟩
set_option maxRecDepth 100000 in
theorem open_copy {v : Value} {d : DataW H} {ps : List MemPlace} (hval : Value.okWide Tryz.prog W .any base 32 v) (h : DataW.Trod enc Tryz.prog W 0 (fun _ => true) true 32 v d ps) : ∃ (r : CR) (c : Cp), v = crV r ∧ CpR W r c := by
  unfold Value.okWide at hval
  rw [Tryz.underlying32] at hval
  obtain ⟨cs, rfl, hsz, _⟩ := hval
  obtain ⟨fuel, hf⟩ := h
  obtain ⟨l⟩ := cs
  have hf : DataW.trod enc Tryz.prog W 0 (fun _ => true) true fuel 32 l = some (d, ps) := hf
  obtain ⟨xs, m, _, _, hl, hxl, hel⟩ := DataW.trod_struct Tryz.underlying32 hf
  rw [Tryz.cells32] at hl
  match l, hl with
  | [u0, u1, u2, u3, u4, u5], _ =>
    have e0 := hel 0 _ rfl
    have e1 := hel 1 _ rfl
    have e2 := hel 2 _ rfl
    have e3 := hel 3 _ rfl
    have e4 := hel 4 _ rfl
    simp only [List.getElem_toArray, List.getElem_cons_succ, List.getElem_cons_zero] at e0 e1 e2 e3 e4
    rw [Tryz.cells3] at e0 e1
    rw [Tryz.cells25] at e2
    rw [Tryz.cells29] at e3
    rw [Tryz.cells30] at e4
    simp only [List.drop_zero, List.drop_succ_cons, List.take_succ_cons, List.take_zero] at e0 e1 e2 e3 e4
    simp only [List.size_toArray, List.length_cons, List.length_nil] at hxl
    rw [List.getElem?_eq_getElem (by omega)] at e0 e1 e2 e3 e4
    obtain ⟨n0, h0, _, _⟩ := DataW.trod_int Tryz.underlying3 e0
    obtain ⟨n1, h1, _, _⟩ := DataW.trod_int Tryz.underlying3 e1
    obtain ⟨A3, l3, c3, h3, k1, k2, k3⟩ := open_rowI e3
    obtain ⟨A4, l4, c4, h4, k4, k5, k6⟩ := open_rowN e4
    obtain ⟨ys, m2, _, _, _, hyl, hel2⟩ := DataW.trod_struct Tryz.underlying25 e2
    have f0 := hel2 0 _ rfl
    have f1 := hel2 1 _ rfl
    simp only [List.getElem_toArray, List.getElem_cons_succ, List.getElem_cons_zero] at f0 f1
    rw [Tryz.cells3] at f0 f1
    simp only [List.drop_zero, List.drop_succ_cons, List.take_succ_cons, List.take_zero] at f0 f1
    simp only [List.size_toArray, List.length_cons, List.length_nil] at hyl
    rw [List.getElem?_eq_getElem (by omega)] at f0 f1
    obtain ⟨n2, h2, _, _⟩ := DataW.trod_int Tryz.underlying3 f0
    obtain ⟨n3, h3', _, _⟩ := DataW.trod_int Tryz.underlying3 f1
    simp only [List.cons.injEq, and_true] at h0 h1 h2 h3 h3' h4
    subst h0; subst h1; subst h2; subst h3; subst h3'; subst h4
    exact ⟨⟨n0, n1, n2, n3, A3, l3.length, c3, A4, l4.length, c4⟩, ⟨n0, n1, n2, n3, l3, l4⟩, rfl, ⟨rfl, rfl, rfl, rfl⟩, ⟨k1, k2, k3⟩, k4, k5, k6⟩
set_option maxRecDepth 100000 in
theorem trod_a3 {fuel : Nat} {cs : List Value} {x : DataW H × List MemPlace} (h : DataW.trod enc Tryz.prog W 0 (fun _ => true) true fuel 79 cs = some x) : ∃ s : I3, cs = c3 s ∧ ok3 s := by
  obtain ⟨xs, m', _, _, hl, hxl, hel⟩ := DataW.trod_array Tryz.underlying79 h
  rw [Tryz.cells79] at hl
  match cs, hl with
  | [u0, u1, u2], _ =>
    have e0 := hel 0 (by omega)
    have e1 := hel 1 (by omega)
    have e2 := hel 2 (by omega)
    rw [Tryz.cells3] at e0 e1 e2
    simp only [Nat.mul_one, List.drop_zero, List.drop_succ_cons, List.take_succ_cons, List.take_zero] at e0 e1 e2
    rw [List.getElem?_eq_getElem (by omega)] at e0 e1 e2
    obtain ⟨n0, h0, _, w0⟩ := DataW.trod_int Tryz.underlying3 e0
    obtain ⟨n1, h1, _, w1⟩ := DataW.trod_int Tryz.underlying3 e1
    obtain ⟨n2, h2, _, w2⟩ := DataW.trod_int Tryz.underlying3 e2
    simp at h0 h1 h2
    subst h0; subst h1; subst h2
    exact ⟨(n0, n1, n2), rfl, wf_of w0, wf_of w1, wf_of w2⟩
set_option maxRecDepth 100000 in
theorem open_sl33 {v : Value} {d : DataW H} {ps : List MemPlace} (hval : Value.okWide Tryz.prog W .any base 22 v) (h : DataW.Trod enc Tryz.prog W 0 (fun _ => true) true 22 v d ps) :
    ∃ (A : Option Addr) (n c : Nat) (rows : List XR) (xs : List (List I3)), v = .slice A n c ∧ n ≤ c ∧ c ≤ 9223372036854775807 ∧ SlR W W.heap.size 1 A n (rows.flatMap cX) ∧ Xss W rows xs := by
  obtain ⟨a, len, cap, rfl⟩ := okWide_slice Tryz.underlying22 hval
  obtain ⟨fuel, hf⟩ := h
  obtain ⟨A, l, c, h1, h2, h3, h4, h5⟩ := open_rowK (k := 1) (by omega) (fun s : XR × List I3 => cX s.1) (fun _ => rfl) (fun s : XR × List I3 => s.1.n ≤ 9223372036854775807 ∧ SlR W W.heap.size 3 s.1.a s.1.n (s.2.flatMap c3) ∧ ∀ t ∈ s.2, ok3 t) Tryz.underlying22 Tryz.cells23 (fun fuel cs x hh => by
    obtain ⟨A, l, c, k1, k2, k3, k4, k5⟩ := open_rowK (k := 3) (by omega) c3 (fun _ => rfl) ok3 Tryz.underlying23 Tryz.cells79 (fun fuel cs x hh => trod_a3 hh) hh
    exact ⟨(⟨A, l.length, c⟩, l), k1, by show l.length ≤ _; omega, k5, k4⟩) hf
  simp only [Value.cells, List.cons.injEq, and_true, Value.slice.injEq] at h1
  obtain ⟨rfl, rfl, rfl⟩ := h1
  refine ⟨_, _, _, l.map (·.1), l.map (·.2), rfl, h2, h3, by simpa [List.flatMap_map] using h5, by simp, fun k k1 k2 => ?_⟩
  have hk : k < l.length := by simpa using k1
  simp only [List.getElem_map]
  exact h4 _ (List.getElem_mem hk)
end
theorem trodAll_nine {H : Type} {enc : TypeId × Value → H} {P : Program} {w : World} {base : Nat} {spare : Nat → Bool} {held : Bool} {t1 t2 t3 t4 t5 t6 t7 t8 t9 : TypeId} {args : Array Value} {ds : List (DataW H)} {ps : List MemPlace}
    (h : DataW.TrodAll enc P w base spare held [t1, t2, t3, t4, t5, t6, t7, t8, t9] args.toList ds ps) : ∃ v1 v2 v3 v4 v5 v6 v7 v8 v9 d1 d2 d3 d4 d5 d6 d7 d8 d9 p1 p2 p3 p4 p5 p6 p7 p8 p9, args = #[v1, v2, v3, v4, v5, v6, v7, v8, v9] ∧ ds = [d1, d2, d3, d4, d5, d6, d7, d8, d9] ∧ ps = p1 ++ p2 ++ p3 ++ p4 ++ p5 ++ p6 ++ p7 ++ p8 ++ p9 ∧
      (DataW.Trod enc P w base spare held t1 v1 d1 p1 ∧ DataW.Trod enc P w base spare held t2 v2 d2 p2 ∧ DataW.Trod enc P w base spare held t3 v3 d3 p3 ∧ DataW.Trod enc P w base spare held t4 v4 d4 p4 ∧ DataW.Trod enc P w base spare held t5 v5 d5 p5 ∧ DataW.Trod enc P w base spare held t6 v6 d6 p6 ∧ DataW.Trod enc P w base spare held t7 v7 d7 p7 ∧ DataW.Trod enc P w base spare held t8 v8 d8 p8 ∧ DataW.Trod enc P w base spare held t9 v9 d9 p9) := by
  obtain ⟨v1, vs1, d1, ds1, p1, q1, e1, rfl, rfl, h1, h⟩ := trodAll_cons h
  obtain ⟨v2, vs2, d2, ds2, p2, q2, rfl, rfl, rfl, h2, h⟩ := trodAll_cons h
  obtain ⟨v3, vs3, d3, ds3, p3, q3, rfl, rfl, rfl, h3, h⟩ := trodAll_cons h
  obtain ⟨v4, vs4, d4, ds4, p4, q4, rfl, rfl, rfl, h4, h⟩ := trodAll_cons h
  obtain ⟨v5, vs5, d5, ds5, p5, q5, rfl, rfl, rfl, h5, h⟩ := trodAll_cons h
  obtain ⟨v6, vs6, d6, ds6, p6, q6, rfl, rfl, rfl, h6, h⟩ := trodAll_cons h
  obtain ⟨v7, vs7, d7, ds7, p7, q7, rfl, rfl, rfl, h7, h⟩ := trodAll_cons h
  obtain ⟨v8, vs8, d8, ds8, p8, q8, rfl, rfl, rfl, h8, h⟩ := trodAll_cons h
  obtain ⟨v9, vs9, d9, ds9, p9, q9, rfl, rfl, rfl, h9, h⟩ := trodAll_cons h
  obtain ⟨rfl, rfl, rfl⟩ := trodAll_nil h
  exact ⟨v1, v2, v3, v4, v5, v6, v7, v8, v9, d1, d2, d3, d4, d5, d6, d7, d8, d9, p1, p2, p3, p4, p5, p6, p7, p8, p9, by cases args; simp_all, rfl, by simp, h1, h2, h3, h4, h5, h6, h7, h8, h9⟩
end Go.Proofs.YtncdombfhcfobaaGreat
