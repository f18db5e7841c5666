/- Plain words: what the program's Tight and Order say, and the reference's, is the same. No program here. -/
import Derived.Test.YtenhghkiapkejaaR8
namespace Go.Proofs.Ytenhghkiapkejaa
open Go.RowKit
def TD (L : List I3) (l : List I4) (out : List I3) (k E : Int) : Prop :=
  (proper L l = false ∧ out = [] ∧ k = 0 ∧ E = 60) ∨ (proper L l = true ∧ TOk L l out ∧ k = -1 ∧ E = 0) ∨
    (proper L l = true ∧ out = [] ∧ ∃ j : Nat, k = j ∧ j < l.length ∧ TBd L (l.take (j + 1)) ∧ (∀ i, 1 ≤ i → i ≤ j → ¬ TBd L (l.take i)) ∧ E = 0)
theorem take_mem {α : Type} {l : List α} {k : Nat} : ∀ m ∈ l.take k, m ∈ l := fun _ h => List.mem_of_mem_take h
theorem TD.uniq {L : List I3} {l : List I4} {out out' : List I3} {k k' E E' : Int} (h : TD L l out k E) (h' : TD L l out' k' E') : out = out' ∧ k = k' ∧ E = E' := by
  rcases h with ⟨p, rfl, rfl, rfl⟩ | ⟨p, ho, rfl, rfl⟩ | ⟨p, rfl, j, rfl, hj, hb, hn, rfl⟩
  · rcases h' with ⟨_, rfl, rfl, rfl⟩ | ⟨p', _⟩ | ⟨p', _⟩
    · exact ⟨rfl, rfl, rfl⟩
    · rw [p] at p'; cases p'
    · rw [p] at p'; cases p'
  · rcases h' with ⟨p', _⟩ | ⟨_, ho', rfl, rfl⟩ | ⟨_, _, j', _, _, hb', _⟩
    · rw [p] at p'; cases p'
    · exact ⟨ho.uniq ho', rfl, rfl⟩
    · exact absurd hb' (ho.not_bd take_mem)
  · rcases h' with ⟨p', _⟩ | ⟨_, ho', _⟩ | ⟨_, rfl, j', rfl, hj', hb', hn', rfl⟩
    · rw [p] at p'; cases p'
    · exact absurd hb (ho'.not_bd take_mem)
    · rcases Nat.lt_trichotomy j j' with h | h | h
      · exact absurd hb (hn' (j + 1) (by omega) (by omega))
      · subst h; exact ⟨rfl, rfl, rfl⟩
      · exact absurd hb' (hn (j' + 1) (by omega) (by omega))
def TForm (out : List I3) (k E : Int) (w : World) (e : Ending) (w' : World) : Prop :=
  Below w.heap.size w w' ∧ ∃ A c, e = .returned (.tuple #[.slice A out.length c, .int .i64 k, .int .i64 E]) ∧ out.length ≤ c ∧ c ≤ maxLen ∧ SlR w' w'.heap.size 3 A out.length (out.flatMap c3)
theorem form_all {L : List I3} {l : List I4} {w w' : World} {e : Ending} (h : TightAll L l w e w') : ∃ out k E, TD L l out k E ∧ TForm out k E w e w' := by
  rcases h with ⟨p, rfl, hb⟩ | ⟨p, v, out, rfl, hown, hok, hb⟩ | ⟨p, k, rfl, hk, hbad, ⟨o, ho⟩, hb⟩
  · exact ⟨[], 0, 60, .inl ⟨p, rfl, rfl, rfl⟩, hb, none, 0, rfl, by simp, by simp [maxLen], SlR.nil⟩
  · obtain ⟨A, c, rfl, h1, h2, h3⟩ := SlR.of_own hown
    exact ⟨out, -1, 0, .inr (.inl ⟨p, TOk.of hok, rfl, rfl⟩), hb, A, c, rfl, h1, h2, h3⟩
  · refine ⟨[], k, 0, .inr (.inr ⟨p, rfl, k, rfl, hk, TBd.of hbad, fun i h1 h2 => ?_, rfl⟩), hb, none, 0, rfl, by simp, by simp [maxLen], SlR.nil⟩
    exact (TOk.of ho).not_bd (take_sub l h2)
theorem form_ref {L : List I3} {l : List I4} {w w' : World} {e : Ending} (h : RTPost L l w e w') : ∃ out k E, TD L l out k E ∧ TForm out k E w e w' := by
  obtain ⟨hb, ⟨p, rfl⟩ | ⟨p, v, out, rfl, hown, hok⟩ | ⟨p, k, rfl, hk, hbad, hall⟩⟩ := h
  · exact ⟨[], 0, 60, .inl ⟨p, rfl, rfl, rfl⟩, hb, none, 0, rfl, by simp, by simp [maxLen], SlR.nil⟩
  · obtain ⟨A, c, rfl, h1, h2, h3⟩ := SlR.of_own hown
    exact ⟨out, -1, 0, .inr (.inl ⟨p, hok, rfl, rfl⟩), hb, A, c, rfl, h1, h2, h3⟩
  · refine ⟨[], k, 0, .inr (.inr ⟨p, rfl, k, rfl, hk, hbad, fun i h1 h2 => ?_, rfl⟩), hb, none, 0, rfl, by simp, by simp [maxLen], SlR.nil⟩
    obtain ⟨o, ho⟩ := hall i h1 h2
    exact ho.not_bd (fun _ h => h)
theorem cert_uniq {l : List I4} {X Y : I3} {d r r' : Int} (hnb : ¬ FromBad l X.1) (h : Cert l X Y d r) (k : Cert l X Y d r') : r = r' := by
  rcases h with ⟨n, hn, rfl⟩ | ⟨hno, rfl⟩
  · rcases k with ⟨n', hn', rfl⟩ | ⟨hno', _⟩
    · rw [path_one hnb hn hn']
    · exact absurd hn (hno' _)
  · rcases k with ⟨n', hn', _⟩ | ⟨_, rfl⟩
    · exact absurd hn' (hno _)
    · rfl
theorem ok_ok {L : List I3} {l : List I4} {a b : I3} {r r' : Int} (h : OrdOk L l a b r) (h' : RoOk L l a b r') : r = r' := by
  obtain ⟨_, _, hpr, out, hok, i, k, hi, hk, ea, eb, hc⟩ := h'
  have h0 := h
  obtain ⟨_, _, _, out0, _, _, _, hok0, _⟩ := h0
  have e := (TOk.of hok0).uniq hok
  subst e
  have hiL : i < L.length := by rw [← hok0.1]; exact hi
  have hnb : ¬ FromBad l out0[i].1 := by
    rw [(hok.2 i hiL hi).1]
    exact (hok.2 i hiL hi).2.1
  exact cert_uniq hnb (ord_cert (proper_sk hpr).1 hok0 hi hk ea eb h) hc
theorem bad_ok {L : List I3} {l : List I4} {a b : I3} {r' : Int} (h : OrdBad L l a b) (h' : RoOk L l a b r') : False := by
  obtain ⟨va, vb, hpr, out, hok, i, k, hi, hk, ea, eb, hc⟩ := h'
  rcases h with h | h | h | ⟨j, _, h⟩ | ⟨out', hok', h⟩
  · rw [va] at h; cases h
  · rw [vb] at h; cases h
  · rw [hpr] at h; cases h
  · exact hok.not_bd take_mem (TBd.of h)
  · have e := (TOk.of hok').uniq hok
    subst e
    rcases h with h | h
    · rw [ea] at h; exact bndF_some (List.getElem_mem hi) h
    · rw [eb] at h; exact bndF_some (List.getElem_mem hk) h
theorem ok_bad {L : List I3} {l : List I4} {a b : I3} {r : Int} (h : OrdOk L l a b r) (h' : RoBad L l a b) : False := by
  obtain ⟨va, vb, hpr, out, x, y, g, hok, hx, hy, _⟩ := h
  have key : ∀ p z, bndF out p = some z → ¬ fnd L p < 0 := by
    intro p z hz hneg
    obtain ⟨s, hs, e, _⟩ := tight_ex hok hz
    rcases fnd_cases L p with ⟨_, hn⟩ | ⟨k, hk, h1, _⟩
    · exact hn s hs e
    · omega
  rcases h' with h | h | h | h | h | ⟨j, _, h⟩
  · rw [va] at h; cases h
  · rw [vb] at h; cases h
  · exact key _ _ hx h
  · exact key _ _ hy h
  · rw [hpr] at h; cases h
  · exact (TOk.of hok).not_bd take_mem h
def OF (L : List I3) (l : List I4) (a b : I3) (r E : Int) : Prop := (OrdBad L l a b ∧ r = 0 ∧ E = 60) ∨ (OrdOk L l a b r ∧ E = 0)
theorem of_all {L : List I3} {l : List I4} {a b : I3} {w w' : World} {e : Ending} (h : OrderPost L l a b w e w') : ∃ r E, OF L l a b r E ∧ e = .returned (.tuple #[.int .i64 r, .int .i64 E]) ∧ Below w.heap.size w w' := by
  obtain ⟨hb, ⟨h, rfl⟩ | ⟨r, h, rfl⟩⟩ := h
  · exact ⟨0, 60, .inl ⟨h, rfl, rfl⟩, rfl, hb⟩
  · exact ⟨r, 0, .inr ⟨h, rfl⟩, rfl, hb⟩
theorem of_ref {L : List I3} {l : List I4} {a b : I3} {w w' : World} {e : Ending} {r E : Int} (hf : OF L l a b r E) (h : RoPost L l a b w e w') : e = .returned (.tuple #[.int .i64 r, .int .i64 E]) ∧ Below w.heap.size w w' := by
  obtain ⟨hb, ⟨h, rfl⟩ | ⟨r', h, rfl⟩⟩ := h
  · rcases hf with ⟨_, rfl, rfl⟩ | ⟨h1, _⟩
    · exact ⟨rfl, hb⟩
    · exact absurd h (fun h => ok_bad h1 h)
  · rcases hf with ⟨h1, _⟩ | ⟨h1, rfl⟩
    · exact absurd h (fun h => bad_ok h1 h)
    · rw [ok_ok h1 h]
      exact ⟨rfl, hb⟩
theorem flat_set3 : ∀ (l : List I3) (q : Nat) (s : I3), q < l.length → (((l.flatMap c3).set (q * 3) (.int .i64 s.1)).set (q * 3 + 1) (.int .i64 s.2.1)).set (q * 3 + 2) (.int .i64 s.2.2) = (l.set q s).flatMap c3
  | [], q, s, h => absurd h (by simp)
  | x :: l, 0, s, _ => by simp [c3]
  | x :: l, q + 1, s, h => by
    have ih := flat_set3 l q s (by simpa using h)
    simp only [List.flatMap_cons, List.set_cons_succ]
    rw [← ih, List.set_append_right _ _ (by simp [c3]; omega), List.set_append_right _ _ (by simp [c3]; omega), List.set_append_right _ _ (by simp [c3]; omega)]
    have e0 : (q + 1) * 3 - (c3 x).length = q * 3 := by simp [c3]; omega
    have e1 : (q + 1) * 3 + 1 - (c3 x).length = q * 3 + 1 := by simp [c3]; omega
    have e2 : (q + 1) * 3 + 2 - (c3 x).length = q * 3 + 2 := by simp [c3]; omega
    rw [e0, e1, e2]
theorem flat_set4 : ∀ (l : List I4) (q : Nat) (s : I4), q < l.length → ((((l.flatMap c4).set (q * 4) (.int .i64 s.1)).set (q * 4 + 1) (.int .i64 s.2.1)).set (q * 4 + 2) (.int .i64 s.2.2.1)).set (q * 4 + 3) (.int .i64 s.2.2.2) = (l.set q s).flatMap c4
  | [], q, s, h => absurd h (by simp)
  | x :: l, 0, s, _ => by simp [c4]
  | x :: l, q + 1, s, h => by
    have ih := flat_set4 l q s (by simpa using h)
    simp only [List.flatMap_cons, List.set_cons_succ]
    rw [← ih, List.set_append_right _ _ (by simp [c4]; omega), List.set_append_right _ _ (by simp [c4]; omega), List.set_append_right _ _ (by simp [c4]; omega), List.set_append_right _ _ (by simp [c4]; omega)]
    have e0 : (q + 1) * 4 - (c4 x).length = q * 4 := by simp [c4]; omega
    have e1 : (q + 1) * 4 + 1 - (c4 x).length = q * 4 + 1 := by simp [c4]; omega
    have e2 : (q + 1) * 4 + 2 - (c4 x).length = q * 4 + 2 := by simp [c4]; omega
    have e3 : (q + 1) * 4 + 3 - (c4 x).length = q * 4 + 3 := by simp [c4]; omega
    rw [e0, e1, e2, e3]
/-- an owned row, its block told -/
theorem own_blk' {W : World} {b : Nat} {e : TypeId} {k n : Nat} {v : Value} {xs : List Value} (h : W.ownsRow b e k v n xs) (hn : 0 < n) : ∃ g cap cur, v = .slice (some ⟨g, 0, none⟩) n cap ∧ n ≤ cap ∧ cap ≤ maxLen ∧ b ≤ g ∧ Blk W g e cur ∧ cur.take (n * k) = xs := by
  rcases h.2 with ⟨_, h1⟩ | ⟨g, cap, cur, h1, h2, h3, h4, h5, _, h7⟩
  · omega
  · exact ⟨g, cap, cur.toList, h1, h4, h5, h2, by unfold Blk; rw [h3], h7⟩
theorem blk_slr {W : World} {g k n : Nat} {e : TypeId} {cur xs : List Value} (h : Blk W g e cur) (hx : xs.length = n * k) (ht : cur.take (n * k) = xs) : SlR W W.heap.size k (some ⟨g, 0, none⟩) n xs := by
  refine ⟨hx, fun _ => ⟨g, 0, rfl, h.lt, fun j u hu => ?_⟩⟩
  have hj := (List.getElem?_eq_some_iff.1 hu).1
  rw [Nat.zero_add, h.cell, ← hu, ← ht, List.getElem?_take_of_lt (by omega)]
end Go.Proofs.Ytenhghkiapkejaa
