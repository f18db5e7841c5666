/- Plain words on what meetings say of the advances of clocks: paths from person to person. No program here. -/
import Derived.Test.YtenhghkiapkejaaW9
namespace Go.Proofs.Ytenhghkiapkejaa

/-- By a path of meetings, the advance of q is by n greater than that of p. -/
inductive Path (l : List I4) (p : Int) : Int → Int → Prop
  | base : Path l p p 0
  | step {x : I3} {n : Int} : Path l p x.1 n → x ∈ pairs l → Path l p x.2.1 (n - x.2.2)

def dv (D : List (Int × Int)) : List (Int × Value) := D.map fun q => (q.1, .int .i64 q.2)
theorem dv_lookup (q : Int) : ∀ D, (dv D).lookup q = (D.lookup q).map (Value.int .i64)
  | [] => rfl
  | (a, n) :: D => by
    have ih := dv_lookup q D
    unfold dv at ih ⊢
    simp only [List.map_cons, List.lookup]
    cases q == a <;> simp [ih]
theorem dv_keys (D : List (Int × Int)) : (dv D).map (·.1) = D.map (·.1) := by
  unfold dv
  rw [List.map_map]
  rfl
theorem dv_snoc (D : List (Int × Int)) (k n : Int) (h : D.lookup k = none) : putL k (.int .i64 n) (dv D) = dv (D ++ [(k, n)]) := by
  rw [putL_new]
  · simp [dv]
  · rw [← lookup_none_iff, dv_lookup, h]; rfl
theorem lookup_snoc (D : List (Int × Int)) (k n q : Int) : (D ++ [(k, n)]).lookup q = (D.lookup q).or (if q = k then some n else none) := by
  induction D with
  | nil =>
    by_cases h : q = k
    · simp [List.lookup, h]
    · simp [List.lookup, h, beq_eq_false_iff_ne.2 h]
  | cons a D ih =>
    obtain ⟨a, m⟩ := a
    simp only [List.cons_append, List.lookup]
    cases q == a <;> simp [ih]

/-- how many pairs lead to somebody who is not known yet -/
def Mn (l : List I4) (D : List (Int × Int)) : Nat := ((pairs l).filter fun x => (D.lookup x.2.1).isNone).length
def closedP (D : List (Int × Int)) (x : I3) : Prop := ∀ a, D.lookup x.1 = some a → D.lookup x.2.1 = some (a - x.2.2)
def FI (l : List I4) (p : Int) (D : List (Int × Int)) : Prop :=
  (D.map (·.1)).Nodup ∧ D.lookup p = some 0 ∧ (∀ q n, D.lookup q = some n → Path l p q n) ∧ (∀ q n, D.lookup q = some n → -(1000000 * (D.length : Int)) ≤ n ∧ n ≤ 1000000 * (D.length : Int)) ∧ D.length + Mn l D ≤ 121

theorem pairs_len (l : List I4) : (pairs l).length = l.length * 2 := by
  induction l with
  | nil => rfl
  | cons m l ih => simp only [pairs, List.flatMap_cons, List.length_append] at ih ⊢; rw [ih]; simp [prs]; omega

theorem FI.start (l : List I4) (p : Int) (h : l.length ≤ 60) : FI l p [(p, 0)] := by
  have hM : Mn l [(p, 0)] ≤ 120 := by
    have h1 : Mn l [(p, 0)] ≤ (pairs l).length := List.length_filter_le _ _
    rw [pairs_len] at h1; omega
  refine ⟨by simp, by simp [List.lookup], fun q n hq => ?_, fun q n hq => ?_, by simp; omega⟩
  · by_cases hqp : q = p
    · subst hqp
      simp [List.lookup] at hq
      subst hq
      exact .base
    · simp [List.lookup, beq_eq_false_iff_ne.2 hqp] at hq
  · by_cases hqp : q = p
    · subst hqp
      simp [List.lookup] at hq
      subst hq
      simp
    · simp [List.lookup, beq_eq_false_iff_ne.2 hqp] at hq

theorem filter_lt {α : Type} {f g : α → Bool} : ∀ (l : List α), (∀ x ∈ l, g x = true → f x = true) → (∃ x ∈ l, f x = true ∧ g x = false) → (l.filter g).length < (l.filter f).length
  | [], _, h => by obtain ⟨x, hx, _⟩ := h; simp at hx
  | y :: l, hs, h => by
    have hle : (l.filter g).length ≤ (l.filter f).length := by
      clear h
      induction l with
      | nil => simp
      | cons z l ih =>
        have ih := ih (fun x hx => hs x (by simp only [List.mem_cons] at hx ⊢; rcases hx with rfl | hx; exact .inl rfl; exact .inr (.inr hx)))
        have hz := hs z (by simp)
        simp only [List.filter_cons]
        cases hg : g z with
        | true => rw [hz hg]; simpa using ih
        | false => cases f z <;> simp <;> omega
    obtain ⟨x, hx, h1, h2⟩ := h
    rcases List.mem_cons.1 hx with rfl | hx
    · simp only [List.filter_cons, h1, h2, if_true]
      simp; omega
    · have ih := filter_lt l (fun z hz => hs z (List.mem_cons_of_mem _ hz)) ⟨x, hx, h1, h2⟩
      have hy := hs y (by simp)
      simp only [List.filter_cons]
      cases hg : g y with
      | true => rw [hy hg]; simpa using ih
      | false => cases f y <;> simp <;> omega

theorem FI.insert {l : List I4} {p : Int} {D : List (Int × Int)} (hok : ∀ m ∈ l, mtOk m) (h : FI l p D) {x : I3} (hx : x ∈ pairs l) {va : Int} (ha : D.lookup x.1 = some va) (hb : D.lookup x.2.1 = none) :
    FI l p (D ++ [(x.2.1, va - x.2.2)]) ∧ Mn l (D ++ [(x.2.1, va - x.2.2)]) < Mn l D := by
  obtain ⟨h1, h2, h3, h4, h5⟩ := h
  have hM : Mn l (D ++ [(x.2.1, va - x.2.2)]) < Mn l D := by
    refine filter_lt _ (fun y _ hy => ?_) ⟨x, hx, by simp [hb], by simp [lookup_snoc, hb]⟩
    rw [lookup_snoc] at hy
    cases hl : D.lookup y.2.1 with
    | none => rfl
    | some v => rw [hl] at hy; simp at hy
  have hg := pairs_gap hok hx
  refine ⟨⟨?_, by rw [lookup_snoc, h2]; rfl, fun q n hq => ?_, fun q n hq => ?_, by simp; omega⟩, hM⟩
  · rw [List.map_append, List.nodup_append]
    refine ⟨h1, by simp, fun a ha' b hb' e => ?_⟩
    simp at hb'
    subst hb'
    subst e
    have := (lookup_none_iff x.2.1 (dv D)).1 (by rw [dv_lookup, hb]; rfl)
    rw [dv_keys] at this
    exact this ha'
  · rw [lookup_snoc] at hq
    cases hl : D.lookup q with
    | some v => rw [hl] at hq; simp at hq; subst hq; exact h3 q v hl
    | none =>
      rw [hl] at hq
      by_cases e : q = x.2.1
      · subst e; simp at hq; subst hq; exact .step (h3 _ _ ha) hx
      · simp [e] at hq
  · have hlen : ((D ++ [(x.2.1, va - x.2.2)]).length : Int) = (D.length : Int) + 1 := by simp
    rw [hlen]
    rw [lookup_snoc] at hq
    cases hl : D.lookup q with
    | some v => rw [hl] at hq; simp at hq; subst hq; have := h4 q v hl; omega
    | none =>
      rw [hl] at hq
      by_cases e : q = x.2.1
      · subst e; simp at hq; subst hq; have := h4 _ _ ha; omega
      · simp [e] at hq

/-- what 'from' says when it has gone through -/
def FromOk (l : List I4) (p : Int) (D : List (Int × Int)) : Prop := (D.map (·.1)).Nodup ∧ (∀ q n, D.lookup q = some n ↔ Path l p q n) ∧ ∀ q n, D.lookup q = some n → -200000000 ≤ n ∧ n ≤ 200000000
/-- what it says when it has not -/
def FromBad (l : List I4) (p : Int) : Prop := ∃ q n n', Path l p q n ∧ Path l p q n' ∧ n ≠ n'
theorem FI.ok {l : List I4} {p : Int} {D : List (Int × Int)} (h : FI l p D) (hc : ∀ x ∈ pairs l, closedP D x) : FromOk l p D := by
  obtain ⟨h1, h2, h3, h4, h5⟩ := h
  refine ⟨h1, fun q n => ⟨h3 q n, fun hp => ?_⟩, fun q n hq => ?_⟩
  · induction hp with
    | base => exact h2
    | step _ hx ih => exact hc _ hx _ ih
  · have := h4 q n hq
    have : (D.length : Int) ≤ 121 := by omega
    omega
end Go.Proofs.Ytenhghkiapkejaa
