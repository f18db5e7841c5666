/- Plain words on the reference's Joined: classes of persons, and by how much they differ. No program here. -/
import Derived.Test.YtenhghkiapkejaaR4
import Derived.Test.YtenhghkiapkejaaCertP
namespace Go.Proofs.Ytenhghkiapkejaa
def gi (xs : List Int) (a : Nat) : Int := xs.getD a 0
def gp (L : List I3) (a : Nat) : Int := (L.getD a (0, 0, 0)).1
theorem gp_at {L : List I3} {a : Nat} (h : a < L.length) : gp L a = L[a].1 := by
  unfold gp
  rw [List.getD_eq_getElem?_getD, List.getElem?_eq_getElem h]
  rfl
theorem gp_one {L : List I3} (hs : skOk (-1) L = true) {a b : Nat} (ha : a < L.length) (hb : b < L.length) (h : gp L a = gp L b) : a = b := by
  rw [gp_at ha, gp_at hb] at h
  exact skOk_one hs ha hb h
def JI (L : List I3) (l : List I4) (fs ms : List Int) (B : Int) : Prop :=
  fs.length = L.length ∧ ms.length = L.length ∧
  (∀ a b, a < L.length → b < L.length → gi fs a = gi fs b → Path l (gp L a) (gp L b) (gi ms b - gi ms a)) ∧
  (∀ m ∈ l, ∀ a b, a < L.length → b < L.length → gp L a = m.1 → gp L b = m.2.2.1 → gi fs a = gi fs b ∧ gi ms a - gi ms b = m.2.1 - m.2.2.2) ∧
  (∀ a, a < L.length → -B ≤ gi ms a ∧ gi ms a ≤ B)
theorem gi_set {xs : List Int} {k : Nat} (h : k < xs.length) (v : Int) (a : Nat) : gi (xs.set k v) a = if a = k then v else gi xs a := by
  unfold gi
  by_cases e : a = k
  · subst e; simp [List.getD, List.getElem?_set_self h]
  · rw [if_neg e]; simp [List.getD, List.getElem?_set_ne (fun x => e x.symm)]
theorem JI.start (L : List I3) {fs ms : List Int} (hf : fs.length = L.length) (hm : ms.length = L.length) (h1 : ∀ a, a < L.length → gi fs a = a) (h2 : ∀ a, gi ms a = 0) : JI L [] fs ms 0 := by
  refine ⟨hf, hm, fun a b ha hb h => ?_, by simp, fun a _ => by rw [h2]; omega⟩
  rw [h1 a ha, h1 b hb] at h
  have e : a = b := by omega
  subst e
  rw [h2, Int.sub_self]
  exact .base
theorem JI.stay {L : List I3} {l : List I4} {fs ms : List Int} {B B' : Int} (hs : skOk (-1) L = true) (h : JI L l fs ms B) (hB : B ≤ B') {m : I4} {a b : Nat} (ha : a < L.length) (hb : b < L.length) (ea : gp L a = m.1) (eb : gp L b = m.2.2.1)
    (h1 : gi fs a = gi fs b) (h2 : gi ms a - gi ms b = m.2.1 - m.2.2.2) : JI L (l ++ [m]) fs ms B' := by
  obtain ⟨g1, g2, g3, g4, g5⟩ := h
  refine ⟨g1, g2, fun x y hx hy h => path_mono (fun _ hm => List.mem_append_left _ hm) (g3 x y hx hy h), fun m' hm' x y hx hy ex ey => ?_, fun x hx => by have := g5 x hx; omega⟩
  rcases List.mem_append.1 hm' with hm' | hm'
  · exact g4 m' hm' x y hx hy ex ey
  · have e := List.mem_singleton.1 hm'
    subst e
    have e1 : x = a := gp_one hs hx ha (by rw [ex, ea])
    have e2 : y = b := gp_one hs hy hb (by rw [ey, eb])
    subst e1; subst e2
    exact ⟨h1, h2⟩
theorem JI.bad {L : List I3} {l : List I4} {fs ms : List Int} {B : Int} (h : JI L l fs ms B) {m : I4} {a b : Nat} (ha : a < L.length) (hb : b < L.length) (ea : gp L a = m.1) (eb : gp L b = m.2.2.1)
    (h1 : gi fs a = gi fs b) (h2 : gi ms a - gi ms b ≠ m.2.1 - m.2.2.2) : FromBad (l ++ [m]) (gp L a) := by
  have p1 := path_mono (l' := l ++ [m]) (fun _ hm => List.mem_append_left _ hm) (h.2.2.1 a b ha hb h1)
  have p2 : Path (l ++ [m]) (gp L a) (gp L b) (0 - (m.2.1 - m.2.2.2)) := by
    have := path_fwd (l := l ++ [m]) (m := m) (p := gp L a) (n := 0) (by simp) (by rw [← ea]; exact .base)
    rw [eb]; exact this
  exact ⟨gp L b, _, _, p1, p2, by omega⟩
theorem JI.merge {L : List I3} {l : List I4} {fs ms fs' ms' : List Int} {B B' : Int} (hs : skOk (-1) L = true) (h : JI L l fs ms B) {m : I4} (hmt : mtOk m) {a b : Nat} (ha : a < L.length) (hb : b < L.length) (ea : gp L a = m.1) (eb : gp L b = m.2.2.1)
    (hne : gi fs a ≠ gi fs b) (hB : B' = 3 * B + 1000000) (hf : fs'.length = L.length) (hm : ms'.length = L.length)
    (hf' : ∀ k, k < L.length → gi fs' k = if gi fs k = gi fs b then gi fs a else gi fs k)
    (hm' : ∀ k, k < L.length → gi ms' k = if gi fs k = gi fs b then gi ms k + (gi ms a - (m.2.1 - m.2.2.2) - gi ms b) else gi ms k) : JI L (l ++ [m]) fs' ms' B' := by
  obtain ⟨g1, g2, g3, g4, g5⟩ := h
  have hsub : ∀ m' ∈ l, m' ∈ l ++ [m] := fun _ hm => List.mem_append_left _ hm
  have hmm : m ∈ l ++ [m] := by simp
  refine ⟨hf, hm, fun x y hx hy he => ?_, fun m2 hm2 x y hx hy ex ey => ?_, fun x hx => ?_⟩
  · rw [hf' x hx, hf' y hy] at he
    rw [hm' x hx, hm' y hy]
    by_cases cx : gi fs x = gi fs b
    · by_cases cy : gi fs y = gi fs b
      · rw [if_pos cx, if_pos cy]
        have := path_mono hsub (g3 x y hx hy (by rw [cx, cy]))
        have e : gi ms y + (gi ms a - (m.2.1 - m.2.2.2) - gi ms b) - (gi ms x + (gi ms a - (m.2.1 - m.2.2.2) - gi ms b)) = gi ms y - gi ms x := by omega
        rw [e]; exact this
      · rw [if_pos cx, if_neg cy] at he ⊢
        have p1 := path_mono hsub (g3 x b hx hb cx)
        rw [eb] at p1
        have p2 := path_back hmm p1
        rw [← ea] at p2
        have p3 := path_trans p2 (path_mono hsub (g3 a y ha hy he))
        have e : gi ms y - (gi ms x + (gi ms a - (m.2.1 - m.2.2.2) - gi ms b)) = gi ms b - gi ms x + (m.2.1 - m.2.2.2) + (gi ms y - gi ms a) := by omega
        rw [e]; exact p3
    · by_cases cy : gi fs y = gi fs b
      · rw [if_neg cx, if_pos cy] at he ⊢
        have p1 := path_mono hsub (g3 x a hx ha he)
        rw [ea] at p1
        have p2 := path_fwd hmm p1
        rw [← eb] at p2
        have p3 := path_trans p2 (path_mono hsub (g3 b y hb hy cy.symm))
        have e : gi ms y + (gi ms a - (m.2.1 - m.2.2.2) - gi ms b) - gi ms x = gi ms a - gi ms x - (m.2.1 - m.2.2.2) + (gi ms y - gi ms b) := by omega
        rw [e]; exact p3
      · rw [if_neg cx, if_neg cy] at he ⊢
        exact path_mono hsub (g3 x y hx hy he)
  · rw [hf' x hx, hf' y hy, hm' x hx, hm' y hy]
    rcases List.mem_append.1 hm2 with hm2 | hm2
    · obtain ⟨q1, q2⟩ := g4 m2 hm2 x y hx hy ex ey
      rw [q1]
      split
      · exact ⟨rfl, by omega⟩
      · exact ⟨rfl, q2⟩
    · have e := List.mem_singleton.1 hm2
      subst e
      have e1 : x = a := gp_one hs hx ha (by rw [ex, ea])
      have e2 : y = b := gp_one hs hy hb (by rw [ey, eb])
      subst e1; subst e2
      rw [if_neg hne, if_pos rfl, if_neg hne, if_pos rfl]
      exact ⟨rfl, by omega⟩
  · rw [hm' x hx]
    obtain ⟨t1, t2, t3, t4⟩ := hmt
    have u1 := g5 x hx
    have u2 := g5 a ha
    have u3 := g5 b hb
    split <;> omega
/-- what the classes say, once all meetings are joined -/
theorem JI.path {L : List I3} {l : List I4} {fs ms : List Int} {B : Int} (hok : ∀ m ∈ l, meetOk L m = true) (h : JI L l fs ms B) {a : Nat} (ha : a < L.length) {q n : Int} (hp : Path l (gp L a) q n) : ∃ b, b < L.length ∧ gp L b = q ∧ gi fs a = gi fs b ∧ n = gi ms b - gi ms a := by
  have hix : ∀ p, (bndF L p).isSome = true → ∃ b, b < L.length ∧ gp L b = p := by
    intro p hp
    obtain ⟨b, hb⟩ := Option.isSome_iff_exists.1 hp
    obtain ⟨s, hs, e, _⟩ := mem_of_bnd L p b hb
    obtain ⟨k, hk, rfl⟩ := List.getElem_of_mem hs
    exact ⟨k, hk, by rw [gp_at hk]; exact e⟩
  induction hp with
  | base => exact ⟨a, ha, rfl, rfl, by omega⟩
  | step _ hx ih =>
    obtain ⟨b, hb, e1, e2, e3⟩ := ih
    obtain ⟨m, hm, hx⟩ := List.mem_flatMap.1 hx
    obtain ⟨k1, k2⟩ := meetOk_bnd (hok m hm)
    simp only [prs, List.mem_cons, List.not_mem_nil, or_false] at hx
    rcases hx with rfl | rfl
    · obtain ⟨y, hy, ey⟩ := hix _ k2
      obtain ⟨r1, r2⟩ := h.2.2.2.1 m hm b y hb hy e1 ey
      exact ⟨y, hy, ey, by rw [e2, r1], by simp only []; omega⟩
    · obtain ⟨y, hy, ey⟩ := hix _ k1
      obtain ⟨r1, r2⟩ := h.2.2.2.1 m hm y b hy hb ey e1
      exact ⟨y, hy, ey, by rw [e2, r1], by simp only []; omega⟩
theorem JI.not_bad {L : List I3} {l : List I4} {fs ms : List Int} {B : Int} (hs : skOk (-1) L = true) (hok : ∀ m ∈ l, meetOk L m = true) (h : JI L l fs ms B) {a : Nat} (ha : a < L.length) : ¬ FromBad l (gp L a) := by
  rintro ⟨q, n, n', h1, h2, hne⟩
  obtain ⟨b, hb, e1, _, e3⟩ := h.path hok ha h1
  obtain ⟨b', hb', e1', _, e3'⟩ := h.path hok ha h2
  have := gp_one hs hb hb' (by rw [e1, e1'])
  subst this
  omega
def bdN (i : Nat) : Int := 1000000 * 3 ^ i - 1000000
theorem bdN_succ (i : Nat) : bdN (i + 1) = 3 * bdN i + 2000000 := by unfold bdN; rw [Int.pow_succ]; omega
theorem bdN_le {i : Nat} (h : i ≤ 8) : 0 ≤ bdN i ∧ bdN i ≤ 6561000000 := by
  have : i = 0 ∨ i = 1 ∨ i = 2 ∨ i = 3 ∨ i = 4 ∨ i = 5 ∨ i = 6 ∨ i = 7 ∨ i = 8 := by omega
  rcases this with rfl | rfl | rfl | rfl | rfl | rfl | rfl | rfl | rfl <;> (unfold bdN; decide)
theorem JI.le {L : List I3} {l : List I4} {fs ms : List Int} {B B' : Int} (h : JI L l fs ms B) (hB : B ≤ B') : JI L l fs ms B' :=
  ⟨h.1, h.2.1, h.2.2.1, h.2.2.2.1, fun a ha => by have := h.2.2.2.2 a ha; omega⟩
end Go.Proofs.Ytenhghkiapkejaa
