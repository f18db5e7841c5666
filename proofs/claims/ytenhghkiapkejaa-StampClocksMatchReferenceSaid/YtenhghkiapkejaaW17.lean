/- The chapter's example, in plain words, and the contracts at it. -/
import Derived.Test.YtenhghkiapkejaaW13
namespace Go.Proofs.Ytenhghkiapkejaa
open Go.RowKit
def exL : List I3 := [(1, 0, 10), (2, -5, 5)]
def exM : List I4 := [(1, 108, 2, 100), (1, 200, 2, 201)]
def exA : I3 := (110, 1, 1)
def exB : I3 := (103, 2, 1)
theorem TightOk.uniq {L : List I3} {l : List I4} {a b : List I3} (h : TightOk L l a) (k : TightOk L l b) : a = b := by
  apply List.ext_getElem (by rw [h.1, k.1])
  intro i h1 h2
  obtain ⟨x1, _, x2, x3, _⟩ := h.2 i (by rw [← h.1]; exact h1) h1
  obtain ⟨y1, _, y2, y3, _⟩ := k.2 i (by rw [← h.1]; exact h1) h2
  have e1 := x1.trans y1.symm
  have e2 := x2.uniq y2
  have e3 := x3.uniq y3
  generalize a[i] = p at *
  generalize b[i] = q at *
  obtain ⟨p1, p2, p3⟩ := p
  obtain ⟨q1, q2, q3⟩ := q
  simp only [] at e1 e2 e3
  subst e1; subst e2; subst e3; rfl
theorem ex_pairs : pairs [(1, 108, 2, 100)] = [(1, 2, 8), (2, 1, -8)] := by decide
theorem ex_path1 {q n : Int} : Path [(1, 108, 2, 100)] 1 q n ↔ (q = 1 ∧ n = 0) ∨ (q = 2 ∧ n = -8) := by
  constructor
  · intro h
    induction h with
    | base => exact .inl ⟨rfl, rfl⟩
    | step _ hx ih =>
      rw [ex_pairs] at hx
      simp only [List.mem_cons, List.not_mem_nil, or_false] at hx
      rcases hx with rfl | rfl
      · dsimp only at ih ⊢; omega
      · dsimp only at ih ⊢; omega
  · rintro (⟨rfl, rfl⟩ | ⟨rfl, rfl⟩)
    · exact .base
    · exact .step (x := (1, 2, 8)) .base (by rw [ex_pairs]; simp)
theorem ex_path2 {q n : Int} : Path [(1, 108, 2, 100)] 2 q n ↔ (q = 2 ∧ n = 0) ∨ (q = 1 ∧ n = 8) := by
  constructor
  · intro h
    induction h with
    | base => exact .inl ⟨rfl, rfl⟩
    | step _ hx ih =>
      rw [ex_pairs] at hx
      simp only [List.mem_cons, List.not_mem_nil, or_false] at hx
      rcases hx with rfl | rfl
      · dsimp only at ih ⊢; omega
      · dsimp only at ih ⊢; omega
  · rintro (⟨rfl, rfl⟩ | ⟨rfl, rfl⟩)
    · exact .base
    · exact .step (x := (2, 1, -8)) .base (by rw [ex_pairs]; simp)
theorem ex_from1 : FromOk [(1, 108, 2, 100)] 1 [(1, 0), (2, -8)] := by
  refine ⟨by decide, fun q n => ?_, fun q n h => ?_⟩
  · rw [ex_path1]
    by_cases h1 : q = 1
    · subst h1; simp [List.lookup]; omega
    · by_cases h2 : q = 2
      · subst h2; simp [List.lookup]; omega
      · simp [List.lookup, beq_eq_false_iff_ne.2 h1, beq_eq_false_iff_ne.2 h2, h1, h2]
  · by_cases h1 : q = 1
    · subst h1; simp [List.lookup] at h; omega
    · by_cases h2 : q = 2
      · subst h2; simp [List.lookup] at h; omega
      · simp [List.lookup, beq_eq_false_iff_ne.2 h1, beq_eq_false_iff_ne.2 h2] at h
theorem ex_from2 : FromOk [(1, 108, 2, 100)] 2 [(1, 8), (2, 0)] := by
  refine ⟨by decide, fun q n => ?_, fun q n h => ?_⟩
  · rw [ex_path2]
    by_cases h1 : q = 1
    · subst h1; simp [List.lookup]; omega
    · by_cases h2 : q = 2
      · subst h2; simp [List.lookup]; omega
      · simp [List.lookup, beq_eq_false_iff_ne.2 h1, beq_eq_false_iff_ne.2 h2, h1, h2]
  · by_cases h1 : q = 1
    · subst h1; simp [List.lookup] at h; omega
    · by_cases h2 : q = 2
      · subst h2; simp [List.lookup] at h; omega
      · simp [List.lookup, beq_eq_false_iff_ne.2 h1, beq_eq_false_iff_ne.2 h2] at h
theorem ex_bd : blo exL 1 = 0 ∧ bhi exL 1 = 10 ∧ blo exL 2 = -5 ∧ bhi exL 2 = 5 := by decide
def exT : List I3 := [(1, 3, 10), (2, -5, 2)]
theorem ex_t1 : TOne exL [(1, 108, 2, 100)] (1, 0, 10) (1, 3, 10) := by
  obtain ⟨b1, b2, b3, b4⟩ := ex_bd
  refine ⟨rfl, ⟨_, ex_from1⟩, ⟨by decide, fun q n h => ?_, .inr ⟨2, -8, ex_path1.2 (.inr ⟨rfl, rfl⟩), by rw [b3]; decide⟩⟩, ⟨by decide, fun q n h => ?_, .inl rfl⟩, by decide⟩
  · rcases ex_path1.1 h with ⟨rfl, rfl⟩ | ⟨rfl, rfl⟩
    · rw [b1]; decide
    · rw [b3]; decide
  · rcases ex_path1.1 h with ⟨rfl, rfl⟩ | ⟨rfl, rfl⟩
    · rw [b2]; decide
    · rw [b4]; decide
theorem ex_t2 : TOne exL [(1, 108, 2, 100)] (2, -5, 5) (2, -5, 2) := by
  obtain ⟨b1, b2, b3, b4⟩ := ex_bd
  refine ⟨rfl, ⟨_, ex_from2⟩, ⟨by decide, fun q n h => ?_, .inl rfl⟩, ⟨by decide, fun q n h => ?_, .inr ⟨1, 8, ex_path2.2 (.inr ⟨rfl, rfl⟩), by rw [b2]; decide⟩⟩, by decide⟩
  · rcases ex_path2.1 h with ⟨rfl, rfl⟩ | ⟨rfl, rfl⟩
    · rw [b3]; decide
    · rw [b1]; decide
  · rcases ex_path2.1 h with ⟨rfl, rfl⟩ | ⟨rfl, rfl⟩
    · rw [b4]; decide
    · rw [b2]; decide
theorem ex_tight : TightOk exL [(1, 108, 2, 100)] exT := by
  refine ⟨rfl, fun k h h' => ?_⟩
  match k, h, h' with
  | 0, _, _ => exact ex_t1
  | 1, _, _ => exact ex_t2
theorem ex_bad {out : List I3} : ¬ TightOk exL exM out := by
  intro h
  have h0 := h.2 0 (by decide) (by rw [h.1]; decide)
  obtain ⟨_, ⟨D, hD⟩, _⟩ := h0
  refine hD.not_bad ⟨2, -8, 1, ?_, ?_, by decide⟩
  · exact Path.step (l := exM) (x := (1, 2, 8)) Path.base (by decide)
  · exact Path.step (l := exM) (x := (1, 2, -1)) Path.base (by decide)
theorem ex_sk : skOk (-1) exL = true := by decide
theorem ex_proper : proper exL exM = true ∧ proper exL [(1, 108, 2, 100)] = true ∧ proper exL [] = true ∧ proper [] exM = false := by decide
section
variable (A B : Option Addr) (c d : Nat) (w : World) (hn : 2 ≤ c) (hc : c ≤ 9223372036854775807) (hm : 2 ≤ d) (hd : d ≤ 9223372036854775807)
  (hr : SlR w w.heap.size 3 A 2 (exL.flatMap c3)) (hs : SlR w w.heap.size 4 B 2 (exM.flatMap c4))
include hs in
theorem ex_upto : SlR w w.heap.size 4 B 1 (([(1, 108, 2, 100)] : List I4).flatMap c4) := by
  have := hs.upto (m := 1) (by omega)
  rw [flat_take c4 4 (fun _ => rfl)] at this
  exact this
include hn hc hm hd hr hs
theorem s24a : Calls Try.prog 24 #[.slice A 2 c, .slice B 1 d] w fun e w' => ∃ v, e = .returned (.tuple #[v, .int .i64 (-1), .int .i64 0]) ∧ w'.ownsRow w.heap.size 41 3 v 2 (exT.flatMap c3) ∧ Below w.heap.size w w' := by
  refine (f24 A B exL [(1, 108, 2, 100)] c d w hn hc (by simp; omega) hd hr (ex_upto B w hs)).mono ?_
  rintro e w' (⟨hp, _⟩ | ⟨_, v, out, rfl, hown, htok, hb⟩ | ⟨_, k, rfl, hk, hbad, _, hb⟩)
  · rw [ex_proper.2.1] at hp; cases hp
  · obtain rfl := htok.uniq ex_tight
    exact ⟨v, rfl, hown, hb⟩
  · simp only [List.length_cons, List.length_nil] at hk
    obtain rfl : k = 0 := by omega
    exact absurd hbad ex_tight.not_bad
theorem s24b : Calls Try.prog 24 #[.slice A 2 c, .slice B 2 d] w fun e w' => e = .returned (.tuple #[.slice none 0 0, .int .i64 1, .int .i64 0]) ∧ Below w.heap.size w w' := by
  refine (f24 A B exL exM c d w hn hc hm hd hr hs).mono ?_
  rintro e w' (⟨hp, _⟩ | ⟨_, v, out, rfl, hown, htok, hb⟩ | ⟨_, k, rfl, hk, hbad, _, hb⟩)
  · rw [ex_proper.1] at hp; cases hp
  · exact absurd htok ex_bad
  · have hk2 : k < 2 := hk
    rcases Nat.eq_zero_or_pos k with rfl | h0
    · exact absurd hbad (show ¬ TightBad exL [(1, 108, 2, 100)] from ex_tight.not_bad)
    · obtain rfl : k = 1 := by omega
      exact ⟨rfl, hb⟩
theorem s31b : Calls Try.prog 31 #[.slice A 2 c, .slice B 1 d, .agg #[.int .i64 110, .int .i64 1, .int .i64 1], .agg #[.int .i64 103, .int .i64 2, .int .i64 1]] w fun e w' => e = .returned (.tuple #[.int .i64 (-1), .int .i64 0]) ∧ Below w.heap.size w w' := by
  refine (f31 A B exL [(1, 108, 2, 100)] exA exB c d w hn hc (by simp; omega) hd hr (ex_upto B w hs)).mono ?_
  rintro e w' ⟨hb, ⟨hbad, rfl⟩ | ⟨r, ⟨_, _, _, out, x, y, g, htok, hx, hy, hg, hr'⟩, rfl⟩⟩
  · rcases hbad with h | h | h | ⟨k, hk, h⟩ | ⟨out, h, h'⟩
    · exact absurd h (by decide)
    · exact absurd h (by decide)
    · exact absurd h (by decide)
    · simp only [List.length_cons, List.length_nil] at hk
      obtain rfl : k = 0 := by omega
      exact absurd h ex_tight.not_bad
    · obtain rfl := h.uniq ex_tight
      exact absurd h' (by decide)
  · rcases hg with ⟨n, hp, rfl⟩ | ⟨hno, _⟩
    · have : n = -8 := by
        have := ex_path1.1 hp
        have e : exB.2.1 = 2 := rfl
        rw [e] at this
        omega
      subst this
      subst hr'
      exact ⟨rfl, hb⟩
    · exact absurd (ex_path1.2 (.inr ⟨rfl, rfl⟩)) (hno (-8))
theorem s31c : Calls Try.prog 31 #[.slice A 2 c, .slice B 2 d, .agg #[.int .i64 110, .int .i64 1, .int .i64 1], .agg #[.int .i64 103, .int .i64 2, .int .i64 1]] w fun e w' => e = .returned (.tuple #[.int .i64 0, .int .i64 60]) ∧ Below w.heap.size w w' := by
  refine (f31 A B exL exM exA exB c d w hn hc hm hd hr hs).mono ?_
  rintro e w' ⟨hb, ⟨hbad, rfl⟩ | ⟨r, ⟨_, _, _, out, x, y, g, htok, hx, hy, hg, hr'⟩, rfl⟩⟩
  · exact ⟨rfl, hb⟩
  · exact absurd htok ex_bad
end
theorem s31a (A : Option Addr) (c : Nat) (w : World) (hn : 2 ≤ c) (hc : c ≤ 9223372036854775807) (hr : SlR w w.heap.size 3 A 2 (exL.flatMap c3)) :
    Calls Try.prog 31 #[.slice A 2 c, .slice none 0 0, .agg #[.int .i64 110, .int .i64 1, .int .i64 1], .agg #[.int .i64 103, .int .i64 2, .int .i64 1]] w fun e w' => e = .returned (.tuple #[.int .i64 0, .int .i64 0]) ∧ Below w.heap.size w w' := by
  refine (f31 A none exL [] exA exB c 0 w hn hc (by simp) (by omega) hr SlR.nil).mono ?_
  rintro e w' ⟨hb, ⟨hbad, rfl⟩ | ⟨r, ⟨_, _, _, out, x, y, g, htok, hx, hy, hg, hr'⟩, rfl⟩⟩
  · rcases hbad with h | h | h | ⟨k, hk, h⟩ | ⟨out, h, h'⟩
    · exact absurd h (by decide)
    · exact absurd h (by decide)
    · exact absurd h (by decide)
    · exact absurd hk (by simp)
    · obtain rfl := h.uniq (tight_nil ex_sk)
      exact absurd h' (by decide)
  · obtain rfl := htok.uniq (tight_nil ex_sk)
    have ex : bndF exL exA.2.1 = some (0, 10) := by decide
    have ey : bndF exL exB.2.1 = some (-5, 5) := by decide
    rw [ex] at hx; injection hx with hx; subst hx
    rw [ey] at hy; injection hy with hy; subst hy
    rcases hg with ⟨n, hp, rfl⟩ | ⟨hno, rfl⟩
    · exact absurd (path_nil hp).1 (by decide)
    · subst hr'
      exact ⟨rfl, hb⟩
end Go.Proofs.Ytenhghkiapkejaa
