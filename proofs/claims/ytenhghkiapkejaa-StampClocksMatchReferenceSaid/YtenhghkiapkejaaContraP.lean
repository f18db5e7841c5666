/- Plain words: what a further meeting does to paths and to Tight's bounds. No program here. -/
import Derived.Test.YtenhghkiapkejaaLawP
namespace Go.Proofs.Ytenhghkiapkejaa
theorem path_mono {l l' : List I4} (h : ∀ m ∈ l, m ∈ l') {p q n : Int} (hp : Path l p q n) : Path l' p q n := by
  induction hp with
  | base => exact .base
  | step _ hx ih =>
    refine .step ih ?_
    obtain ⟨m, hm, hx⟩ := List.mem_flatMap.1 hx
    exact List.mem_flatMap.2 ⟨m, h m hm, hx⟩
theorem path_trans {l : List I4} {p q r n m : Int} (h : Path l p q n) (k : Path l q r m) : Path l p r (n + m) := by
  induction k with
  | base => rw [Int.add_zero]; exact h
  | @step x m' _ hx ih =>
    have := Path.step ih hx
    have e : n + m' - x.2.2 = n + (m' - x.2.2) := by omega
    rw [e] at this
    exact this
theorem pairs_flip {l : List I4} {x : I3} (h : x ∈ pairs l) : (x.2.1, x.1, -x.2.2) ∈ pairs l := by
  obtain ⟨m, hm, hx⟩ := List.mem_flatMap.1 h
  refine List.mem_flatMap.2 ⟨m, hm, ?_⟩
  simp only [prs, List.mem_cons, List.not_mem_nil, or_false] at hx ⊢
  rcases hx with rfl | rfl
  · right
    simp only [Prod.mk.injEq, true_and]
    omega
  · left
    simp only [Prod.mk.injEq, true_and]
    omega
theorem path_sym {l : List I4} {p q n : Int} (h : Path l p q n) : Path l q p (-n) := by
  induction h with
  | base => exact .base
  | @step x n' _ hx ih =>
    have h1 := Path.step (x := (x.2.1, x.1, -x.2.2)) (Path.base (l := l) (p := x.2.1)) (pairs_flip hx)
    have := path_trans h1 ih
    simp only [] at this
    have e : 0 - -x.2.2 + -n' = -(n' - x.2.2) := by omega
    rw [e] at this
    exact this
theorem bad_mono {l l' : List I4} (h : ∀ m ∈ l, m ∈ l') {p : Int} (hb : FromBad l p) : FromBad l' p := by
  obtain ⟨q, n, n', h1, h2, hne⟩ := hb
  exact ⟨q, n, n', path_mono h h1, path_mono h h2, hne⟩
theorem low_mono {L : List I3} {l l' : List I4} (h : ∀ m ∈ l, m ∈ l') {p lo a b : Int} (ha : LowIs L l p lo a) (hb : LowIs L l' p lo b) : a ≤ b := by
  rcases ha.2.2 with e | ⟨q, n, hq, e⟩
  · have := hb.1; omega
  · have := hb.2.1 q n (path_mono h hq); omega
theorem high_mono {L : List I3} {l l' : List I4} (h : ∀ m ∈ l, m ∈ l') {p lo a b : Int} (ha : HighIs L l p lo a) (hb : HighIs L l' p lo b) : b ≤ a := by
  rcases ha.2.2 with e | ⟨q, n, hq, e⟩
  · have := hb.1; omega
  · have := hb.2.1 q n (path_mono h hq); omega
/-- the meetings up to a good one are good -/
theorem ok_not_bad {L : List I3} {l l' : List I4} (h : ∀ m ∈ l, m ∈ l') {out : List I3} (hok : TightOk L l' out) : ¬ TightBad L l := by
  rintro ⟨s, hs, hn⟩
  obtain ⟨k, hk, rfl⟩ := List.getElem_of_mem hs
  obtain ⟨t1, ⟨D, hD⟩, t2, t3, t4⟩ := hok.2 k hk (by rw [hok.1]; exact hk)
  rcases hn with hb | ⟨lo, hi, _, h1, h2, h3⟩
  · exact hD.not_bad (bad_mono h hb)
  · have := low_mono h h1 t2
    have := high_mono h h2 t3
    omega
theorem path_without {l : List I4} {m : I4} {p q n : Int} (hno : ∀ n, ¬ Path (l ++ [m]) p m.1 n) (h : Path (l ++ [m]) p q n) : Path l p q n := by
  induction h with
  | base => exact .base
  | @step x n' hp hx ih =>
    obtain ⟨m', hm', hx'⟩ := List.mem_flatMap.1 hx
    rcases List.mem_append.1 hm' with hm' | hm'
    · exact .step ih (List.mem_flatMap.2 ⟨m', hm', hx'⟩)
    · have e := List.mem_singleton.1 hm'
      subst e
      simp only [prs, List.mem_cons, List.not_mem_nil, or_false] at hx'
      rcases hx' with rfl | rfl
      · exact absurd hp (hno _)
      · exact absurd (Path.step hp hx) (hno _)
/-- the first contradiction is in the part of the last meeting: no advance of its first person is possible -/
theorem contra {L : List I3} {l : List I4} {m : I4} {out : List I3} (hs : skOk (-1) L = true) (hm : ∀ m' ∈ l ++ [m], meetOk L m' = true) (hbad : TightBad L (l ++ [m])) (hok : TightOk L l out) (a : Int) : ¬ Poss L (l ++ [m]) m.1 a := by
  rintro ⟨hnb, hp⟩
  obtain ⟨s, hsL, hn⟩ := hbad
  have hbs := bndF_mem (-1) L hs s hsL
  by_cases hc : ∃ n, Path (l ++ [m]) s.1 m.1 n
  · obtain ⟨n0, hn0⟩ := hc
    have hback := path_sym hn0
    rcases hn with hb | ⟨lo, hi, _, h1, h2, h3⟩
    · obtain ⟨q, n, n', k1, k2, hne⟩ := hb
      exact hnb ⟨q, _, _, path_trans hback k1, path_trans hback k2, by omega⟩
    · have hval : ∀ q n, Path (l ++ [m]) s.1 q n → blo L q - n ≤ a + -n0 ∧ a + -n0 ≤ bhi L q - n := by
        intro q n hq
        have hqs := path_bnd hm (by rw [hbs]; rfl) hq
        obtain ⟨b, hqb⟩ := Option.isSome_iff_exists.1 hqs
        obtain ⟨s', hs', e1, e2⟩ := mem_of_bnd L q b hqb
        subst e1
        have := hp s' hs' _ (path_trans hback hq)
        unfold blo bhi
        rw [hqb, e2]
        simp only [Option.getD_some]
        omega
      have hself := hp s hsL _ hback
      have k1 : lo ≤ a + -n0 := by
        rcases h1.2.2 with e | ⟨q, n, hq, e⟩
        · omega
        · have := hval q n hq; omega
      have k2 : a + -n0 ≤ hi := by
        rcases h2.2.2 with e | ⟨q, n, hq, e⟩
        · omega
        · have := hval q n hq; omega
      omega
  · have hc' : ∀ n, ¬ Path (l ++ [m]) s.1 m.1 n := fun n h => hc ⟨n, h⟩
    have hsub : ∀ m' ∈ l, m' ∈ l ++ [m] := fun m' h => List.mem_append_left _ h
    refine ok_not_bad (l := l) (fun _ h => h) hok ⟨s, hsL, ?_⟩
    rcases hn with ⟨q, n, n', k1, k2, hne⟩ | ⟨lo, hi, ⟨D, hD⟩, h1, h2, h3⟩
    · exact .inl ⟨q, n, n', path_without hc' k1, path_without hc' k2, hne⟩
    · refine .inr ⟨lo, hi, ⟨D, hD.1, fun q n => ?_, hD.2.2⟩, ⟨h1.1, fun q n hq => h1.2.1 q n (path_mono hsub hq), ?_⟩, ⟨h2.1, fun q n hq => h2.2.1 q n (path_mono hsub hq), ?_⟩, h3⟩
      · rw [hD.2.1]
        exact ⟨path_without hc', path_mono hsub⟩
      · rcases h1.2.2 with e | ⟨q, n, hq, e⟩
        · exact .inl e
        · exact .inr ⟨q, n, path_without hc' hq, e⟩
      · rcases h2.2.2 with e | ⟨q, n, hq, e⟩
        · exact .inl e
        · exact .inr ⟨q, n, path_without hc' hq, e⟩
theorem proper_take {L : List I3} {l : List I4} (h : proper L l = true) (k : Nat) : proper L (l.take k) = true := by
  obtain ⟨hs, h60, hm⟩ := proper_sk h
  unfold proper
  rw [hs]
  simp only [Bool.true_and, Bool.and_eq_true, decide_eq_true_eq, Bool.not_eq_true', List.any_eq_false]
  refine ⟨by rw [List.length_take]; omega, fun m hmem => ?_⟩
  rw [hm m (List.mem_of_mem_take hmem)]
  simp
theorem take_sub {α : Type} (l : List α) {i j : Nat} (h : i ≤ j) : ∀ m ∈ l.take i, m ∈ l.take j := by
  intro m hm
  have : l.take i = (l.take j).take i := by rw [List.take_take, Nat.min_eq_left h]
  rw [this] at hm
  exact List.mem_of_mem_take hm
/-- all that Tight says of the meetings up to j lies within these skews -/
def Wide (L : List I3) (l : List I4) (j : Nat) (last : List I3) : Prop :=
  last.length = L.length ∧ ∀ k (h : k < L.length) (h' : k < last.length) t, TOne L (l.take j) L[k] t → last[k].2.1 ≤ t.2.1 ∧ t.2.2 ≤ last[k].2.2
theorem Wide.start (L : List I3) (l : List I4) : Wide L l 0 L := ⟨rfl, fun _ _ _ _ h => ⟨h.2.2.1.1, h.2.2.2.1.1⟩⟩
theorem Wide.next {L : List I3} {l : List I4} {j : Nat} {out : List I3} (h : TightOk L (l.take j) out) : Wide L l (j + 1) out := by
  refine ⟨h.1, fun k hk hk' t ht => ?_⟩
  have h1 := h.2 k hk hk'
  exact ⟨low_mono (take_sub l (Nat.le_succ j)) h1.2.2.1 ht.2.2.1, high_mono (take_sub l (Nat.le_succ j)) h1.2.2.2.1 ht.2.2.2.1⟩
end Go.Proofs.Ytenhghkiapkejaa
