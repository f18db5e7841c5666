/- Plain words on the advances that follow from that of one person, turn by turn. No program here. -/
import Derived.Test.YtenhghkiapkejaaW12
namespace Go.Proofs.Ytenhghkiapkejaa
def kn (ks : List Bool) (q : Int) : Bool := ks.getD q.toNat false
def vl (os : List Int) (q : Int) : Int := os.getD q.toNat 0
def inP (q : Int) : Prop := 0 ≤ q ∧ q < 40
def plOk (l : List I4) : Prop := ∀ m ∈ l, mtOk m ∧ inP m.1 ∧ inP m.2.2.1
def cnt (l : List I4) (ks : List Bool) : Nat := (l.filter fun m => kn ks m.1 && kn ks m.2.2.1).length
theorem kn_set {ks : List Bool} (h : ks.length = 40) {q r : Int} (hq : inP q) (hr : inP r) : kn (ks.set q.toNat true) r = if r = q then true else kn ks r := by
  unfold kn
  unfold inP at *
  by_cases e : r = q
  · subst e
    rw [if_pos rfl]
    simp [List.getD, List.getElem?_set_self (show r.toNat < ks.length by omega)]
  · rw [if_neg e]
    have : q.toNat ≠ r.toNat := by omega
    simp [List.getD, List.getElem?_set_ne this]
theorem vl_set {os : List Int} (h : os.length = 40) {q r : Int} (v : Int) (hq : inP q) (hr : inP r) : vl (os.set q.toNat v) r = if r = q then v else vl os r := by
  unfold vl
  unfold inP at *
  by_cases e : r = q
  · subst e
    rw [if_pos rfl]
    simp [List.getD, List.getElem?_set_self (show r.toNat < os.length by omega)]
  · rw [if_neg e]
    have : q.toNat ≠ r.toNat := by omega
    simp [List.getD, List.getElem?_set_ne this]
/-- what is known so far is so -/
def SI (l : List I4) (p adv : Int) (os : List Int) (ks : List Bool) : Prop :=
  os.length = 40 ∧ ks.length = 40 ∧ kn ks p = true ∧ vl os p = adv ∧
    ∀ q, inP q → kn ks q = true → Path l p q (vl os q - adv) ∧ -(1000000 * (cnt l ks : Int)) ≤ vl os q - adv ∧ vl os q - adv ≤ 1000000 * (cnt l ks : Int)
def stl (os : List Int) (ks : List Bool) (m : I4) : Prop := kn ks m.1 = kn ks m.2.2.1 ∧ (kn ks m.1 = true → vl os m.1 - vl os m.2.2.1 = m.2.1 - m.2.2.2)
def clo (l : List I4) (ks : List Bool) : Prop := ∀ m ∈ l, kn ks m.1 = kn ks m.2.2.1
/-- how far a turn is -/
def Tn (l : List I4) (os0 : List Int) (ks0 : List Bool) (i : Nat) (os : List Int) (ks : List Bool) : Prop :=
  (ks = ks0 ∧ os = os0 ∧ ∀ m ∈ l.take i, stl os ks m) ∨ (¬ clo l ks0 ∧ cnt l ks0 < cnt l ks)
theorem cnt_le (l : List I4) (ks : List Bool) : cnt l ks ≤ l.length := List.length_filter_le _ _
theorem cnt_lt {l : List I4} {ks ks' : List Bool} (h : ∀ m ∈ l, kn ks m.1 = true → kn ks m.2.2.1 = true → kn ks' m.1 = true ∧ kn ks' m.2.2.1 = true) {m : I4} (hm : m ∈ l) (h1 : (kn ks m.1 && kn ks m.2.2.1) = false) (h2 : kn ks' m.1 = true) (h3 : kn ks' m.2.2.1 = true) : cnt l ks < cnt l ks' := by
  refine filter_lt l (fun x hx hg => ?_) ⟨m, hm, by rw [h2, h3]; rfl, h1⟩
  rw [Bool.and_eq_true] at hg ⊢
  exact h x hx hg.1 hg.2
theorem path_fwd {l : List I4} {p n : Int} {m : I4} (hm : m ∈ l) (h : Path l p m.1 n) : Path l p m.2.2.1 (n - (m.2.1 - m.2.2.2)) :=
  Path.step (x := (m.1, m.2.2.1, m.2.1 - m.2.2.2)) h (List.mem_flatMap.2 ⟨m, hm, by simp [prs]⟩)
theorem path_back {l : List I4} {p n : Int} {m : I4} (hm : m ∈ l) (h : Path l p m.2.2.1 n) : Path l p m.1 (n + (m.2.1 - m.2.2.2)) := by
  have := Path.step (x := (m.2.2.1, m.1, m.2.2.2 - m.2.1)) h (List.mem_flatMap.2 ⟨m, hm, by simp [prs]⟩)
  have e : n - (m.2.2.2 - m.2.1) = n + (m.2.1 - m.2.2.2) := by omega
  simp only [e] at this
  exact this
theorem SI.start (l : List I4) (p adv : Int) (hp : inP p) : SI l p adv ((List.replicate 40 (0 : Int)).set p.toNat adv) ((List.replicate 40 false).set p.toNat true) := by
  have hk : ∀ q, inP q → kn ((List.replicate 40 false).set p.toNat true) q = if q = p then true else false := fun q hq => by
    rw [kn_set (by simp) hp hq]
    have : kn (List.replicate 40 false) q = false := by
      unfold kn inP at *
      rw [List.getD_eq_getElem?_getD, List.getElem?_replicate]
      split <;> rfl
    rw [this]
  refine ⟨by simp, by simp, by rw [hk p hp, if_pos rfl], by rw [vl_set (by simp) _ hp hp, if_pos rfl], fun q hq h => ?_⟩
  rw [hk q hq] at h
  by_cases e : q = p
  · subst e
    rw [vl_set (by simp) _ hq hq, if_pos rfl, Int.sub_self]
    exact ⟨.base, by omega, by omega⟩
  · rw [if_neg e] at h; cases h
theorem SI.add {l : List I4} {p adv : Int} {os : List Int} {ks : List Bool} (hl : plOk l) (h : SI l p adv os ks) (hp : inP p) {q v : Int} (hq : inP q) (hkq : kn ks q = false) {m : I4} (hm : m ∈ l)
    (hside : m.1 = q ∧ kn ks m.2.2.1 = true ∧ v = vl os m.2.2.1 + (m.2.1 - m.2.2.2) ∨ m.2.2.1 = q ∧ kn ks m.1 = true ∧ v = vl os m.1 - (m.2.1 - m.2.2.2)) :
    SI l p adv (os.set q.toNat v) (ks.set q.toNat true) ∧ cnt l ks < cnt l (ks.set q.toNat true) ∧ ¬ clo l ks := by
  obtain ⟨h1, h2, h3, h4, h5⟩ := h
  obtain ⟨⟨g1, g2, g3, g4⟩, hA, hB⟩ := hl m hm
  have hc : cnt l ks < cnt l (ks.set q.toNat true) := by
    refine cnt_lt (m := m) (fun x hx a b => ?_) hm ?_ ?_ ?_
    · obtain ⟨_, xA, xB⟩ := hl x hx
      rw [kn_set h2 hq xA, kn_set h2 hq xB, a, b]
      constructor <;> split <;> rfl
    · rcases hside with ⟨e, _⟩ | ⟨e, _⟩
      · rw [e, hkq]; rfl
      · rw [e, hkq]; simp
    · rw [kn_set h2 hq hA]
      rcases hside with ⟨e, _⟩ | ⟨_, e, _⟩
      · rw [if_pos e]
      · rw [e]; split <;> rfl
    · rw [kn_set h2 hq hB]
      rcases hside with ⟨_, e, _⟩ | ⟨e, _⟩
      · rw [e]; split <;> rfl
      · rw [if_pos e]
  have hne : p ≠ q := fun e => by rw [e, hkq] at h3; cases h3
  refine ⟨⟨by simp [h1], by simp [h2], by rw [kn_set h2 hq hp, h3]; split <;> rfl, by rw [vl_set h1 _ hq hp, if_neg hne, h4], fun r hr hk => ?_⟩, hc, fun hcl => ?_⟩
  · rw [vl_set h1 _ hq hr]
    by_cases e : r = q
    · subst e
      rw [if_pos rfl]
      rcases hside with ⟨e1, e2, e3⟩ | ⟨e1, e2, e3⟩
      · obtain ⟨k1, k2, k3⟩ := h5 _ hB e2
        subst e1
        have := path_back hm k1
        refine ⟨?_, by omega, by omega⟩
        have ee : v - adv = vl os m.2.2.1 - adv + (m.2.1 - m.2.2.2) := by omega
        rw [ee]; exact this
      · obtain ⟨k1, k2, k3⟩ := h5 _ hA e2
        subst e1
        have := path_fwd hm k1
        refine ⟨?_, by omega, by omega⟩
        have ee : v - adv = vl os m.1 - adv - (m.2.1 - m.2.2.2) := by omega
        rw [ee]; exact this
    · rw [if_neg e]
      rw [kn_set h2 hq hr, if_neg e] at hk
      obtain ⟨k1, k2, k3⟩ := h5 r hr hk
      exact ⟨k1, by omega, by omega⟩
  · have := hcl m hm
    rcases hside with ⟨e, e2, _⟩ | ⟨e, e2, _⟩
    · rw [e, hkq, e2] at this; cases this
    · rw [e, hkq, e2] at this; cases this
/-- what one meeting does: the four ways -/
theorem Tn.add {l : List I4} {os0 os os' : List Int} {ks0 ks ks' : List Bool} {i : Nat} (h : Tn l os0 ks0 i os ks) (hc : cnt l ks < cnt l ks') (hn : ¬ clo l ks) : Tn l os0 ks0 (i + 1) os' ks' := by
  right
  rcases h with ⟨rfl, _, _⟩ | ⟨h1, h2⟩
  · exact ⟨hn, hc⟩
  · exact ⟨h1, by omega⟩
theorem Tn.stay {l : List I4} {os0 os : List Int} {ks0 ks : List Bool} {i : Nat} (hi : i < l.length) (h : Tn l os0 ks0 i os ks) (hs : stl os ks l[i]) : Tn l os0 ks0 (i + 1) os ks := by
  rcases h with ⟨h1, h2, h3⟩ | h
  · left
    refine ⟨h1, h2, fun m hm => ?_⟩
    rw [List.take_succ_eq_append_getElem hi] at hm
    rcases List.mem_append.1 hm with hm | hm
    · exact h3 m hm
    · rw [List.mem_singleton.1 hm]; exact hs
  · exact .inr h
/-- between turns -/
def Rd (l : List I4) (t : Nat) (os : List Int) (ks : List Bool) : Prop := (clo l ks ∨ t ≤ cnt l ks) ∧ (l.length < t → ∀ m ∈ l, stl os ks m)
theorem Tn.done {l : List I4} {os0 os : List Int} {ks0 ks : List Bool} {t : Nat} (h0 : Rd l t os0 ks0) (h : Tn l os0 ks0 l.length os ks) : Rd l (t + 1) os ks := by
  rcases h with ⟨rfl, rfl, h3⟩ | ⟨h1, h2⟩
  · rw [List.take_length] at h3
    exact ⟨.inl fun m hm => (h3 m hm).1, fun _ => h3⟩
  · have h4 := h0.1.resolve_left h1
    exact ⟨.inr (by omega), fun hl => absurd (cnt_le l ks) (by omega)⟩
theorem FromBad.of {l : List I4} {p adv : Int} {os : List Int} {ks : List Bool} (hl : plOk l) (h : SI l p adv os ks) {m : I4} (hm : m ∈ l) (ha : kn ks m.1 = true) (hb : kn ks m.2.2.1 = true) (hne : vl os m.1 - vl os m.2.2.1 ≠ m.2.1 - m.2.2.2) : FromBad l p := by
  obtain ⟨_, hA, hB⟩ := hl m hm
  exact ⟨m.1, _, _, (h.2.2.2.2 _ hA ha).1, path_back hm (h.2.2.2.2 _ hB hb).1, by omega⟩
/-- what is left at the end -/
def SpreadOk (l : List I4) (p adv : Int) (os : List Int) (ks : List Bool) : Prop :=
  os.length = 40 ∧ ks.length = 40 ∧ (∀ q, inP q → kn ks q = true → Path l p q (vl os q - adv)) ∧ (∀ q n, Path l p q n → kn ks q = true ∧ vl os q = adv + n) ∧ (∀ q, inP q → kn ks q = true → -60000000 ≤ vl os q - adv ∧ vl os q - adv ≤ 60000000)
theorem SI.done {l : List I4} {p adv : Int} {os : List Int} {ks : List Bool} (h60 : l.length ≤ 60) (h : SI l p adv os ks) (hs : ∀ m ∈ l, stl os ks m) : SpreadOk l p adv os ks := by
  obtain ⟨h1, h2, h3, h4, h5⟩ := h
  have hcn := cnt_le l ks
  refine ⟨h1, h2, fun q hq hk => (h5 q hq hk).1, fun q n hp => ?_, fun q hq hk => by have := h5 q hq hk; omega⟩
  induction hp with
  | base => exact ⟨h3, by omega⟩
  | step _ hx ih =>
    obtain ⟨i1, i2⟩ := ih
    obtain ⟨m, hm, hx⟩ := List.mem_flatMap.1 hx
    obtain ⟨s1, s2⟩ := hs m hm
    simp only [prs, List.mem_cons, List.not_mem_nil, or_false] at hx
    rcases hx with rfl | rfl
    · simp only [] at i1 i2 ⊢
      have := s2 i1
      exact ⟨by rw [← s1]; exact i1, by omega⟩
    · simp only [] at i1 i2 ⊢
      have := s2 (by rw [s1]; exact i1)
      exact ⟨by rw [s1]; exact i1, by omega⟩
theorem SpreadOk.not_bad {l : List I4} {p adv : Int} {os : List Int} {ks : List Bool} (h : SpreadOk l p adv os ks) : ¬ FromBad l p := by
  rintro ⟨q, n, n', h1, h2, hne⟩
  have a := (h.2.2.2.1 q n h1).2
  have b := (h.2.2.2.1 q n' h2).2
  omega
end Go.Proofs.Ytenhghkiapkejaa
