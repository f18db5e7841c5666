/- Plain words on meetings that integers determine, and on what Tight's bounds mean. No program here. -/
import Derived.Test.YtenhghkiapkejaaW27
import Derived.Test.YtenhghkiapkejaaW24
import Derived.Test.YtenhghkiapkejaaW22
namespace Go.Proofs.Ytenhghkiapkejaa
theorem skOk_lt : ∀ (q : Int) (L : List I3), skOk q L = true → ∀ i j (hi : i < L.length) (hj : j < L.length), i < j → L[i].1 < L[j].1
  | _, [], _, i, _, hi, _, _ => absurd hi (by simp)
  | q, s :: L, hs, i, j, hi, hj, hij => by
    simp only [skOk, Bool.and_eq_true, decide_eq_true_eq, inB_iff] at hs
    cases j with
    | zero => omega
    | succ j =>
      have hj' : j < L.length := by simpa using hj
      cases i with
      | zero =>
        have := (skOk_get hs.2.2.2.2 j hj').2.2.2.2.1
        simp only [List.getElem_cons_zero, List.getElem_cons_succ]
        omega
      | succ i => exact skOk_lt s.1 L hs.2.2.2.2 i j (by simpa using hi) hj' (by omega)
theorem meets_proper {L y : List I3} (hs : skOk (-1) L = true) : proper L (meets L y) = true := by
  have hlen : (meets L y).length ≤ 8 := by
    unfold meets
    split
    · have : ∀ l : List I3, (l.flatMap (mt1 L)).length ≤ l.length := by
        intro l
        induction l with
        | nil => simp
        | cons a l ih => have := mt1_len L a; simp only [List.flatMap_cons, List.length_append, List.length_cons]; omega
      have := this (y.take 8)
      rw [List.length_take] at this
      omega
    · simp
  unfold proper
  rw [hs]
  simp only [Bool.true_and, Bool.and_eq_true, decide_eq_true_eq, Bool.not_eq_true', List.any_eq_false]
  refine ⟨by omega, fun m hm => ?_⟩
  have key : meetOk L m = true := by
    unfold meets at hm
    split at hm
    · rename_i h1
      obtain ⟨s, _, hm⟩ := List.mem_flatMap.1 hm
      unfold mt1 at hm
      split at hm
      · simp at hm
      · rename_i hne
        have ha := pk_range s.1 L.length (by omega)
        have hb := pk_range s.2.1 L.length (by omega)
        have hc := pk_range s.2.2 120 (by omega)
        have ha' : (pk s.1 L.length).toNat < L.length := by omega
        have hb' : (pk s.2.1 L.length).toNat < L.length := by omega
        rw [List.mem_singleton.1 hm]
        unfold meetOk
        simp only [List.getD_eq_getElem?_getD, List.getElem?_eq_getElem ha', List.getElem?_eq_getElem hb', Option.getD_some]
        rw [bndF_mem (-1) L hs _ (List.getElem_mem ha'), bndF_mem (-1) L hs _ (List.getElem_mem hb')]
        have hd : L[(pk s.1 L.length).toNat].1 ≠ L[(pk s.2.1 L.length).toNat].1 := by
          rcases Nat.lt_trichotomy (pk s.1 L.length).toNat (pk s.2.1 L.length).toNat with h | h | h
          · have := skOk_lt (-1) L hs _ _ ha' hb' h; omega
          · omega
          · have := skOk_lt (-1) L hs _ _ hb' ha' h; omega
        simp only [Option.isSome_some, Bool.true_and, Bool.and_eq_true, inB_iff]
        refine ⟨?_, ?_, ?_⟩
        · simp [beq_eq_false_iff_ne.2 hd]
        · omega
        · omega
    · simp at hm
  rw [key]; simp
theorem meetOk_bnd {L : List I3} {m : I4} (h : meetOk L m = true) : (bndF L m.1).isSome = true ∧ (bndF L m.2.2.1).isSome = true := by
  unfold meetOk at h
  simp only [Bool.and_eq_true] at h
  exact ⟨h.1, h.2.1⟩
theorem proper_pl {L : List I3} {l : List I4} (h : proper L l = true) : plOk l := by
  obtain ⟨hs, _, hm⟩ := proper_sk h
  intro m hml
  have := hm m hml
  obtain ⟨h1, h2⟩ := meetOk_bnd this
  obtain ⟨b1, h1⟩ := Option.isSome_iff_exists.1 h1
  obtain ⟨b2, h2⟩ := Option.isSome_iff_exists.1 h2
  have k1 := skOk_bnd (-1) L _ _ hs h1
  have k2 := skOk_bnd (-1) L _ _ hs h2
  exact ⟨meetOk_mt this, ⟨by omega, by omega⟩, ⟨by omega, by omega⟩⟩
theorem skOk_inP {L : List I3} (hs : skOk (-1) L = true) : ∀ s ∈ L, inP s.1 := by
  intro s h
  obtain ⟨k, hk, rfl⟩ := List.getElem_of_mem h
  have := skOk_get hs k hk
  unfold inP
  omega
theorem mem_of_bnd : ∀ (L : List I3) (q : Int) (b : I2), bndF L q = some b → ∃ s ∈ L, s.1 = q ∧ b = (s.2.1, s.2.2)
  | [], q, b, h => by simp [bndF] at h
  | s :: L, q, b, h => by
    simp only [bndF] at h
    cases hL : bndF L q with
    | some b' =>
      rw [hL] at h
      simp at h
      subst h
      obtain ⟨t, ht, h1, h2⟩ := mem_of_bnd L q b' hL
      exact ⟨t, List.mem_cons_of_mem _ ht, h1, h2⟩
    | none =>
      rw [hL] at h
      by_cases e : s.1 = q
      · simp [e] at h
        exact ⟨s, by simp, e, h.symm⟩
      · simp [e] at h
theorem path_bnd {L : List I3} {l : List I4} {p q n : Int} (hm : ∀ m ∈ l, meetOk L m = true) (hp : (bndF L p).isSome = true) (h : Path l p q n) : (bndF L q).isSome = true := by
  induction h with
  | base => exact hp
  | step _ hx _ =>
    obtain ⟨m, hml, hx⟩ := List.mem_flatMap.1 hx
    obtain ⟨h1, h2⟩ := meetOk_bnd (hm m hml)
    simp only [prs, List.mem_cons, List.not_mem_nil, or_false] at hx
    rcases hx with rfl | rfl
    · exact h2
    · exact h1
theorem tight_poss {L : List I3} {l : List I4} {s t : I3} {n : Int} (hs : skOk (-1) L = true) (h : TOne L l s t) (h1 : t.2.1 ≤ n) (h2 : n ≤ t.2.2) : Poss L l t.1 n := by
  obtain ⟨e, ⟨D, hD⟩, hlo, hhi, _⟩ := h
  rw [e]
  refine ⟨hD.not_bad, fun s' hs' m hm => ?_⟩
  have k1 := hlo.2.1 _ _ hm
  have k2 := hhi.2.1 _ _ hm
  have hb := bndF_mem (-1) L hs s' hs'
  unfold blo at k1
  unfold bhi at k2
  rw [hb] at k1 k2
  simp only [Option.getD_some] at k1 k2
  omega
theorem tight_not {L : List I3} {l : List I4} {s t : I3} {n : Int} (hs : skOk (-1) L = true) (hm : ∀ m ∈ l, meetOk L m = true) (hsL : s ∈ L) (h : TOne L l s t) (hn : n < t.2.1 ∨ t.2.2 < n) : ¬ Poss L l t.1 n := by
  obtain ⟨e, _, hlo, hhi, _⟩ := h
  rw [e]
  rintro ⟨_, hp⟩
  have hb := bndF_mem (-1) L hs s hsL
  rcases hn with hn | hn
  · rcases hlo.2.2 with h1 | ⟨q, m, hq, h1⟩
    · have := hp s hsL 0 .base
      omega
    · have hqs := path_bnd hm (by rw [hb]; rfl) hq
      obtain ⟨b, hqb⟩ := Option.isSome_iff_exists.1 hqs
      obtain ⟨s', hs', e1, e2⟩ := mem_of_bnd L q b hqb
      subst e1
      have := hp s' hs' m hq
      unfold blo at h1
      rw [hqb, e2] at h1
      simp only [Option.getD_some] at h1
      omega
  · rcases hhi.2.2 with h1 | ⟨q, m, hq, h1⟩
    · have := hp s hsL 0 .base
      omega
    · have hqs := path_bnd hm (by rw [hb]; rfl) hq
      obtain ⟨b, hqb⟩ := Option.isSome_iff_exists.1 hqs
      obtain ⟨s', hs', e1, e2⟩ := mem_of_bnd L q b hqb
      subst e1
      have := hp s' hs' m hq
      unfold bhi at h1
      rw [hqb, e2] at h1
      simp only [Option.getD_some] at h1
      omega
end Go.Proofs.Ytenhghkiapkejaa
