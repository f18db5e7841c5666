/- Plain words on the skews that are known after meetings. -/
import Derived.Test.YtenhghkiapkejaaW10
import Derived.BigRegion
namespace Go.Proofs.Ytenhghkiapkejaa
open Go.RowKit
def blo (L : List I3) (q : Int) : Int := ((bndF L q).getD (0, 0)).1
def bhi (L : List I3) (q : Int) : Int := ((bndF L q).getD (0, 0)).2
/-- cur is the greatest of lo and of what the persons of P allow -/
def LoIs (L : List I3) (P : List (Int × Value)) (lo cur : Int) : Prop :=
  lo ≤ cur ∧ (∀ q n, (q, Value.int .i64 n) ∈ P → blo L q - n ≤ cur) ∧ (cur = lo ∨ ∃ q n, (q, Value.int .i64 n) ∈ P ∧ cur = blo L q - n)
def HiIs (L : List I3) (P : List (Int × Value)) (hi cur : Int) : Prop :=
  cur ≤ hi ∧ (∀ q n, (q, Value.int .i64 n) ∈ P → cur ≤ bhi L q - n) ∧ (cur = hi ∨ ∃ q n, (q, Value.int .i64 n) ∈ P ∧ cur = bhi L q - n)
theorem LoIs.start (L : List I3) (lo : Int) : LoIs L [] lo lo := ⟨Int.le_refl _, by simp, .inl rfl⟩
theorem HiIs.start (L : List I3) (hi : Int) : HiIs L [] hi hi := ⟨Int.le_refl _, by simp, .inl rfl⟩
theorem LoIs.step {L : List I3} {P : List (Int × Value)} {lo cur q n : Int} (h : LoIs L P lo cur) : LoIs L ((q, .int .i64 n) :: P) lo (max cur (blo L q - n)) := by
  obtain ⟨h1, h2, h3⟩ := h
  refine ⟨by omega, fun r m hm => ?_, ?_⟩
  · rcases List.mem_cons.1 hm with e | hm
    · injection e with e1 e2; injection e2 with _ e2; subst e1; subst e2; omega
    · have := h2 r m hm; omega
  · by_cases hc : blo L q - n ≤ cur
    · rw [Int.max_eq_left hc]
      rcases h3 with h3 | ⟨r, m, hm, h3⟩
      · exact .inl h3
      · exact .inr ⟨r, m, List.mem_cons_of_mem _ hm, h3⟩
    · exact .inr ⟨q, n, by simp, by omega⟩
theorem HiIs.step {L : List I3} {P : List (Int × Value)} {hi cur q n : Int} (h : HiIs L P hi cur) : HiIs L ((q, .int .i64 n) :: P) hi (min cur (bhi L q - n)) := by
  obtain ⟨h1, h2, h3⟩ := h
  refine ⟨by omega, fun r m hm => ?_, ?_⟩
  · rcases List.mem_cons.1 hm with e | hm
    · injection e with e1 e2; injection e2 with _ e2; subst e1; subst e2; omega
    · have := h2 r m hm; omega
  · by_cases hc : cur ≤ bhi L q - n
    · rw [Int.min_eq_left hc]
      rcases h3 with h3 | ⟨r, m, hm, h3⟩
      · exact .inl h3
      · exact .inr ⟨r, m, List.mem_cons_of_mem _ hm, h3⟩
    · exact .inr ⟨q, n, by simp, by omega⟩
/-- in words of paths -/
def LowIs (L : List I3) (l : List I4) (p lo cur : Int) : Prop :=
  lo ≤ cur ∧ (∀ q n, Path l p q n → blo L q - n ≤ cur) ∧ (cur = lo ∨ ∃ q n, Path l p q n ∧ cur = blo L q - n)
def HighIs (L : List I3) (l : List I4) (p hi cur : Int) : Prop :=
  cur ≤ hi ∧ (∀ q n, Path l p q n → cur ≤ bhi L q - n) ∧ (cur = hi ∨ ∃ q n, Path l p q n ∧ cur = bhi L q - n)
theorem mem_lookup {D : List (Int × Int)} (hn : (D.map (·.1)).Nodup) (q n : Int) : (q, n) ∈ D ↔ D.lookup q = some n := by
  induction D with
  | nil => simp
  | cons a D ih =>
    obtain ⟨a, m⟩ := a
    simp only [List.map_cons, List.nodup_cons] at hn
    have ih := ih hn.2
    by_cases h : q = a
    · subst h
      simp only [List.mem_cons, Prod.mk.injEq, true_and, List.lookup, beq_self_eq_true, Option.some.injEq]
      constructor
      · rintro (h | h)
        · exact h.symm
        · exact absurd (List.mem_map_of_mem (f := (·.1)) h) hn.1
      · intro h; exact .inl h.symm
    · simp only [List.mem_cons, Prod.mk.injEq, h, false_and, false_or, List.lookup, beq_eq_false_iff_ne.2 h]
      exact ih
theorem mem_dv {D : List (Int × Int)} {q n : Int} : (q, Value.int .i64 n) ∈ dv D ↔ (q, n) ∈ D := by
  unfold dv
  rw [List.mem_map]
  constructor
  · rintro ⟨x, hx, e⟩
    injection e with e1 e2
    injection e2 with _ e2
    obtain ⟨a, b⟩ := x
    simp only [] at e1 e2
    subst e1; subst e2
    exact hx
  · intro h; exact ⟨_, h, rfl⟩
theorem LoIs.path {L : List I3} {l : List I4} {p lo cur : Int} {D : List (Int × Int)} {P : List (Int × Value)} (hD : FromOk l p D) (hp : (dv D).Perm P) (h : LoIs L P lo cur) : LowIs L l p lo cur := by
  obtain ⟨h1, h2, h3⟩ := h
  obtain ⟨d1, d2, _⟩ := hD
  refine ⟨h1, fun q n hq => h2 q n (hp.mem_iff.1 (mem_dv.2 ((mem_lookup d1 q n).2 ((d2 q n).2 hq)))), ?_⟩
  rcases h3 with h3 | ⟨q, n, hm, h3⟩
  · exact .inl h3
  · exact .inr ⟨q, n, (d2 q n).1 ((mem_lookup d1 q n).1 (mem_dv.1 (hp.mem_iff.2 hm))), h3⟩
theorem HiIs.path {L : List I3} {l : List I4} {p hi cur : Int} {D : List (Int × Int)} {P : List (Int × Value)} (hD : FromOk l p D) (hp : (dv D).Perm P) (h : HiIs L P hi cur) : HighIs L l p hi cur := by
  obtain ⟨h1, h2, h3⟩ := h
  obtain ⟨d1, d2, _⟩ := hD
  refine ⟨h1, fun q n hq => h2 q n (hp.mem_iff.1 (mem_dv.2 ((mem_lookup d1 q n).2 ((d2 q n).2 hq)))), ?_⟩
  rcases h3 with h3 | ⟨q, n, hm, h3⟩
  · exact .inl h3
  · exact .inr ⟨q, n, (d2 q n).1 ((mem_lookup d1 q n).1 (mem_dv.1 (hp.mem_iff.2 hm))), h3⟩

/-- what one skew becomes -/
def TOne (L : List I3) (l : List I4) (s t : I3) : Prop := t.1 = s.1 ∧ (∃ D, FromOk l s.1 D) ∧ LowIs L l s.1 s.2.1 t.2.1 ∧ HighIs L l s.1 s.2.2 t.2.2 ∧ t.2.1 ≤ t.2.2
def TNot (L : List I3) (l : List I4) (s : I3) : Prop := FromBad l s.1 ∨ ∃ lo hi, (∃ D, FromOk l s.1 D) ∧ LowIs L l s.1 s.2.1 lo ∧ HighIs L l s.1 s.2.2 hi ∧ hi < lo
def TightOk (L : List I3) (l : List I4) (out : List I3) : Prop := out.length = L.length ∧ ∀ k (h : k < L.length) (h' : k < out.length), TOne L l L[k] out[k]
def TightBad (L : List I3) (l : List I4) : Prop := ∃ s ∈ L, TNot L l s
end Go.Proofs.Ytenhghkiapkejaa
