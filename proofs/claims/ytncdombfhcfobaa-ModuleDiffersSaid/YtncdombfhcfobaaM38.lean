/- Plain laws: items by their numbers; what Given gives is proper; what Differ says leads from one list to the other. -/
import Derived.Test.YtncdombfhcfobaaM34
namespace Go.Proofs.Ytncdombfhcfobaa
open Go.RowKit
theorem getI_cons (x : It) (l : List It) (n : Int) : getI (x :: l) n = if x.id = n then some x else getI l n := by
  unfold getI
  rw [List.find?_cons]
  by_cases h : x.id = n <;> simp [h]
theorem getI_nil (n : Int) : getI [] n = none := rfl
theorem getI_put (x : It) : ∀ (l : List It) (n : Int), getI (putI x l) n = if x.id = n then some x else getI l n
  | [], n => by rw [putI, getI_cons]
  | y :: l, n => by
    unfold putI
    by_cases h : y.id = x.id
    · rw [if_pos h, getI_cons, getI_cons]
      by_cases h2 : x.id = n
      · simp [h2]
      · rw [if_neg h2, if_neg h2, if_neg (by omega)]
    · rw [if_neg h, getI_cons, getI_put x l, getI_cons]
      by_cases h2 : x.id = n
      · rw [if_pos h2, if_pos h2, if_neg (by omega)]
      · rw [if_neg h2, if_neg h2]
theorem ids_put (x : It) : ∀ (l : List It) (j : Int), j ∈ (putI x l).map (·.id) ↔ j = x.id ∨ j ∈ l.map (·.id)
  | [], j => by simp [putI]
  | y :: l, j => by
    unfold putI
    by_cases h : y.id = x.id
    · rw [if_pos h]; simp [h]
    · rw [if_neg h, List.map_cons, List.mem_cons, ids_put x l j, List.map_cons, List.mem_cons]
      constructor
      · rintro (h | h | h)
        · exact .inr (.inl h)
        · exact .inl h
        · exact .inr (.inr h)
      · rintro (h | h | h)
        · exact .inr (.inl h)
        · exact .inl h
        · exact .inr (.inr h)
theorem nd_put (x : It) : ∀ (l : List It), (l.map (·.id)).Nodup → ((putI x l).map (·.id)).Nodup
  | [], _ => by simp [putI]
  | y :: l, h => by
    rw [List.map_cons, List.nodup_cons] at h
    unfold putI
    by_cases e : y.id = x.id
    · rw [if_pos e, List.map_cons, List.nodup_cons, ← e]; exact h
    · rw [if_neg e, List.map_cons, List.nodup_cons]
      refine ⟨fun hm => ?_, nd_put x l h.2⟩
      rcases (ids_put x l y.id).1 hm with h1 | h1
      · exact e h1
      · exact h.1 h1
theorem getI_none {l : List It} {n : Int} : getI l n = none ↔ n ∉ l.map (·.id) := by
  unfold getI
  rw [List.find?_eq_none]
  constructor
  · intro h hm
    obtain ⟨x, hx, rfl⟩ := List.mem_map.1 hm
    exact absurd (decide_eq_true (rfl : x.id = x.id)) (h x hx)
  · intro h x hx
    simp only [decide_eq_true_eq]
    exact fun e => h (List.mem_map.2 ⟨x, hx, e⟩)
theorem getI_some {l : List It} {n : Int} {x : It} (h : getI l n = some x) : x ∈ l ∧ x.id = n := ⟨List.mem_of_find?_eq_some h, getI_id h⟩
theorem getI_mem {l : List It} (hn : (l.map (·.id)).Nodup) {x : It} : x ∈ l ↔ getI l x.id = some x := by
  induction l with
  | nil => simp [getI_nil]
  | cons y l ih =>
    rw [List.map_cons, List.nodup_cons] at hn
    rw [getI_cons, List.mem_cons]
    constructor
    · rintro (rfl | h)
      · simp
      · rw [if_neg (fun e => hn.1 (by rw [e]; exact List.mem_map.2 ⟨x, h, rfl⟩))]
        exact (ih hn.2).1 h
    · intro h
      split at h
      · injection h with h; exact .inl h.symm
      · exact .inr ((ih hn.2).2 h)
theorem ids_del (n : Int) : ∀ (l : List It) (j : Int), j ∈ (delI n l).map (·.id) → j ∈ l.map (·.id) := fun l j h => by
  obtain ⟨x, hx, rfl⟩ := List.mem_map.1 h
  exact List.mem_map.2 ⟨x, mem_delI hx, rfl⟩
theorem nd_del (n : Int) : ∀ (l : List It), (l.map (·.id)).Nodup → ((delI n l).map (·.id)).Nodup
  | [], h => h
  | y :: l, h => by
    rw [List.map_cons, List.nodup_cons] at h
    unfold delI
    split
    · exact h.2
    · rw [List.map_cons, List.nodup_cons]
      exact ⟨fun hm => h.1 (ids_del n l _ hm), nd_del n l h.2⟩
theorem getI_del (n : Int) : ∀ (l : List It) (m : Int), (l.map (·.id)).Nodup → getI (delI n l) m = if m = n then none else getI l m
  | [], m, _ => by simp [delI, getI_nil]
  | y :: l, m, h => by
    rw [List.map_cons, List.nodup_cons] at h
    unfold delI
    by_cases e : y.id = n
    · rw [if_pos e, getI_cons]
      by_cases h2 : m = n
      · rw [if_pos h2, h2]
        exact getI_none.2 (by rw [← e]; exact h.1)
      · rw [if_neg h2, if_neg (by omega)]
    · rw [if_neg e, getI_cons, getI_del n l m h.2, getI_cons]
      by_cases h2 : m = n
      · rw [if_pos h2, if_pos h2, if_neg (by omega)]
      · rw [if_neg h2, if_neg h2]
theorem nd_putAll : ∀ (xs l : List It), (l.map (·.id)).Nodup → ((putAll l xs).map (·.id)).Nodup
  | [], _, h => h
  | x :: xs, l, h => nd_putAll xs (putI x l) (nd_put x l h)
theorem nd_delAll : ∀ (ns : List Int) (l : List It), (l.map (·.id)).Nodup → ((delAll l ns).map (·.id)).Nodup
  | [], _, h => h
  | n :: ns, l, h => nd_delAll ns (delI n l) (nd_del n l h)
theorem getI_putAll : ∀ (xs l : List It) (n : Int), (xs.map (·.id)).Nodup → getI (putAll l xs) n = match getI xs n with | some x => some x | none => getI l n
  | [], l, n, _ => rfl
  | x :: xs, l, n, h => by
    rw [List.map_cons, List.nodup_cons] at h
    show getI (putAll (putI x l) xs) n = _
    rw [getI_putAll xs (putI x l) n h.2, getI_put, getI_cons]
    by_cases e : x.id = n
    · rw [if_pos e, if_pos e, getI_none.2 (by rw [← e]; exact h.1)]
    · rw [if_neg e, if_neg e]
theorem getI_delAll : ∀ (ns : List Int) (l : List It) (m : Int), (l.map (·.id)).Nodup → getI (delAll l ns) m = if m ∈ ns then none else getI l m
  | [], l, m, _ => by simp [delAll]
  | n :: ns, l, m, h => by
    show getI (delAll (delI n l) ns) m = _
    rw [getI_delAll ns (delI n l) m (nd_del n l h), getI_del n l m h]
    by_cases e : m = n
    · subst e; simp
    · simp [e]
theorem nd_byL (l : List It) : ((byL l).map (·.id)).Nodup := nd_putAll l [] List.nodup_nil
theorem getI_byL {l : List It} (h : (l.map (·.id)).Nodup) (n : Int) : getI (byL l) n = getI l n := by
  have := getI_putAll l [] n h
  rw [show byL l = putAll [] l from rfl, this, getI_nil]
  cases getI l n <;> rfl
theorem getI_filter {l : List It} (h : (l.map (·.id)).Nodup) (p : It → Bool) (n : Int) : getI (l.filter p) n = match getI l n with | some x => if p x then some x else none | none => none := by
  induction l with
  | nil => rfl
  | cons y l ih =>
    rw [List.map_cons, List.nodup_cons] at h
    rw [getI_cons, List.filter_cons]
    by_cases hp : p y = true
    · rw [if_pos hp, getI_cons]
      by_cases e : y.id = n
      · rw [if_pos e, if_pos e]; simp [hp]
      · rw [if_neg e, if_neg e]; exact ih h.2
    · rw [if_neg hp, ih h.2]
      by_cases e : y.id = n
      · rw [if_pos e, getI_none.2 (by rw [← e]; exact h.1)]; simp [hp]
      · rw [if_neg e]
theorem nd_of_ids {l : List It} (h : (l.map (·.id)).Nodup) : l.Nodup := by
  induction l with
  | nil => exact List.nodup_nil
  | cons y l ih =>
    rw [List.map_cons, List.nodup_cons] at h
    exact List.nodup_cons.2 ⟨fun hm => h.1 (List.mem_map.2 ⟨y, hm, rfl⟩), ih h.2⟩
/-- a sorted list is known by what it has at each number -/
theorem sort_ext {L s t : List It} (h : SortOf L s) (hL : (L.map (·.id)).Nodup) (ht : (t.map (·.id)).Pairwise (· < ·)) (hg : ∀ n, getI L n = getI t n) : s = t := by
  have htn := pair_ne ht
  refine SortOf.uniq hL (List.Perm.refl L) h ⟨(List.perm_ext_iff_of_nodup (nd_of_ids htn) (nd_of_ids hL)).2 fun x => ?_, ?_⟩
  · rw [getI_mem htn, getI_mem hL, hg]
  · rw [List.pairwise_map] at ht
    exact ht.imp (fun {a b} hab => by omega)
theorem itsOk_nd {l : List It} (h : itsOk l = true) : (l.map (·.id)).Nodup := pair_ne (itsOk_parts h).2.1
theorem ascB_of {lo hi : Int} : ∀ (l : List Int) (p : Int), (∀ x ∈ l, p < x ∧ lo ≤ x ∧ x ≤ hi) → l.Pairwise (· < ·) → ascB lo hi p l = true
  | [], _, _, _ => rfl
  | n :: l, p, h, hp => by
    rw [List.pairwise_cons] at hp
    unfold ascB
    simp only [Bool.and_eq_true, decide_eq_true_eq, inB_iff]
    have hn := h n (by simp)
    exact ⟨⟨hn.2, hn.1⟩, ascB_of l n (fun x hx => ⟨hp.1 x hx, (h x (List.mem_cons_of_mem _ hx)).2⟩) hp.2⟩
theorem itsOk_of {l : List It} (h1 : l.length ≤ 12) (h2 : (l.map (·.id)).Pairwise (· < ·)) (h3 : ∀ s ∈ l, 0 ≤ s.id ∧ s.id ≤ 99) (h4 : ∀ s ∈ l, itOk s = true) : itsOk l = true := by
  unfold itsOk
  simp only [Bool.and_eq_true, decide_eq_true_eq, List.all_eq_true]
  refine ⟨⟨h1, ascB_of _ _ (fun x hx => ?_) h2⟩, h4⟩
  obtain ⟨s, hs, rfl⟩ := List.mem_map.1 hx
  have := h3 s hs
  exact ⟨by omega, this⟩
theorem itsOk_filter {l : List It} (h : itsOk l = true) (p : It → Bool) : itsOk (l.filter p) = true := by
  obtain ⟨h1, h2, h3, h4⟩ := itsOk_parts h
  refine itsOk_of (Nat.le_trans (List.length_filter_le _ _) h1) ?_ (fun s hs => h3 s (List.mem_filter.1 hs).1) (fun s hs => h4 s (List.mem_filter.1 hs).1)
  rw [List.pairwise_map] at h2 ⊢
  exact h2.sublist List.filter_sublist
theorem gvI_ok (c d : Int) (a : I3) (hc : c ≤ 21) : itOk (gvI c d a) = true ∧ (gvI c d a).id = d ∧ ((gvI c d a).kind = 2 → 1 < c ∧ 1 ≤ (gvI c d a).mod ∧ (gvI c d a).mod < c) := by
  have h1 := pk_range a.2.1 50 (by omega)
  have h2 := pk_range a.2.2 50 (by omega)
  have h3 := pk_range a.2.1 4 (by omega)
  unfold gvI
  split
  · rename_i hc'
    have h4 := pk_range a.2.1 (c - 1) (by omega)
    refine ⟨?_, rfl, fun _ => ⟨hc'.1, by show 1 ≤ 1 + pk a.2.1 (c - 1); omega, by show 1 + pk a.2.1 (c - 1) < c; omega⟩⟩
    unfold itOk
    simp only [Bool.and_eq_true, Bool.or_eq_true, decide_eq_true_eq, inB_iff]
    exact ⟨⟨⟨by omega, by omega⟩, by omega, by omega⟩, .inr ⟨⟨trivial, rfl⟩, by omega, by omega⟩⟩
  · refine ⟨?_, rfl, fun h => by cases h⟩
    unfold itOk
    simp only [Bool.and_eq_true, Bool.or_eq_true, decide_eq_true_eq, inB_iff]
    refine ⟨⟨⟨by omega, by omega⟩, by omega, by omega⟩, .inl ⟨⟨trivial, ?_⟩, trivial⟩⟩
    unfold gvTx
    split
    · decide
    · split
      · decide
      · split <;> decide
theorem gvF_ok (c : Int) (hc : c ≤ 21) : ∀ (l : List I3) (k : Nat), k ≤ l.length → (((gvF c (l.take k)).2.map (·.id)).Pairwise (· < ·)) ∧ (∀ s ∈ (gvF c (l.take k)).2, 0 ≤ s.id ∧ s.id < (gvF c (l.take k)).1 ∧ itOk s = true ∧ (s.kind = 2 → 1 < c ∧ 1 ≤ s.mod ∧ s.mod < c))
  | l, 0, _ => by simp [gvF]
  | l, k + 1, h => by
    obtain ⟨h1, h2⟩ := gvF_ok c hc l k (by omega)
    have hb := gvF_bd c l k (by omega)
    rw [gvF_snoc c l k (by omega)]
    have hp := pk_range (l[k]'(by omega)).1 3 (by omega)
    have hg := gvI_ok c ((gvF c (l.take k)).1 + pk (l[k]'(by omega)).1 3) (l[k]'(by omega)) hc
    simp only [gvStep, List.map_append, List.map_cons, List.map_nil]
    refine ⟨List.pairwise_append.2 ⟨h1, by simp, fun x hx y hy => ?_⟩, fun s hs => ?_⟩
    · obtain ⟨s, hs, rfl⟩ := List.mem_map.1 hx
      rw [List.mem_singleton.1 hy, hg.2.1]
      have := (h2 s hs).2.1
      omega
    · rcases List.mem_append.1 hs with hs | hs
      · have := h2 s hs
        exact ⟨this.1, by omega, this.2.2⟩
      · rw [List.mem_singleton.1 hs, hg.2.1]
        exact ⟨by omega, by omega, hg.1, hg.2.2⟩
theorem given_ok (c : Int) (hc : c ≤ 21) (l : List I3) : itsOk (givenL c l) = true ∧ ∀ s ∈ givenL c l, s.kind = 2 → 1 < c ∧ 1 ≤ s.mod ∧ s.mod < c := by
  obtain ⟨h1, h2⟩ := gvF_ok c hc (l.take 5) (l.take 5).length (Nat.le_refl _)
  have hb := gvF_bd c (l.take 5) (l.take 5).length (Nat.le_refl _)
  rw [List.take_length] at h1 h2 hb
  have h5 : (l.take 5).length ≤ 5 := by simp; omega
  refine ⟨itsOk_of (by unfold givenL; omega) h1 (fun s hs => ?_) (fun s hs => (h2 s hs).2.2.1), fun s hs => (h2 s hs).2.2.2⟩
  have := h2 s hs
  exact ⟨this.1, by omega⟩
/-! ### Differ -/
theorem chg_self {a : List It} (h : itsOk a = true) : chgL a a = [] := by
  unfold chgL
  rw [List.filter_eq_nil_iff]
  intro x hx
  have hn := itsOk_nd h
  unfold changedB
  rw [getI_byL hn, (getI_mem hn).1 hx]
  simp
theorem gone_iff {a b : List It} (hb : (b.map (·.id)).Nodup) (n : Int) : n ∈ goneL a b ↔ n ∈ a.map (·.id) ∧ getI b n = none := by
  unfold goneL
  rw [List.mem_map]
  constructor
  · rintro ⟨x, hx, rfl⟩
    obtain ⟨h1, h2⟩ := List.mem_filter.1 hx
    unfold goneB at h2
    rw [getI_byL hb] at h2
    exact ⟨List.mem_map.2 ⟨x, h1, rfl⟩, by simpa using h2⟩
  · rintro ⟨h1, h2⟩
    obtain ⟨x, hx, rfl⟩ := List.mem_map.1 h1
    refine ⟨x, List.mem_filter.2 ⟨hx, ?_⟩, rfl⟩
    unfold goneB
    rw [getI_byL hb, h2]
    rfl
theorem gone_self {a : List It} (h : itsOk a = true) : goneL a a = [] := by
  rw [List.eq_nil_iff_forall_not_mem]
  intro n hn
  obtain ⟨h1, h2⟩ := (gone_iff (itsOk_nd h) n).1 hn
  exact getI_none.1 h2 h1
theorem getI_chg {a b : List It} (ha : (a.map (·.id)).Nodup) (hb : (b.map (·.id)).Nodup) (n : Int) : getI (chgL a b) n = match getI b n with | some y => if getI a n = some y then none else some y | none => none := by
  unfold chgL
  rw [getI_filter hb]
  cases hg : getI b n with
  | none => rfl
  | some y =>
    dsimp only
    unfold changedB
    rw [getI_byL ha, getI_id hg]
    by_cases e : getI a n = some y <;> simp [e]
theorem chg_nd {a b : List It} (hb : itsOk b = true) : itsOk (chgL a b) = true := itsOk_filter hb _
/-- a list with the changes made and the gone items taken out has what the other list has -/
theorem differ_leads {a b : List It} (ha : itsOk a = true) (hb : itsOk b = true) (n : Int) : getI (putAll (delAll (byL a) (goneL a b)) (chgL a b)) n = getI b n := by
  have hna := itsOk_nd ha
  have hnb := itsOk_nd hb
  rw [getI_putAll _ _ _ (itsOk_nd (chg_nd hb)), getI_delAll _ _ _ (nd_byL a), getI_byL hna, getI_chg hna hnb]
  cases hg : getI b n with
  | none =>
    dsimp only
    by_cases h : n ∈ goneL a b
    · rw [if_pos h]
    · rw [if_neg h]
      exact getI_none.2 (fun hm => h ((gone_iff hnb n).2 ⟨hm, hg⟩))
  | some y =>
    dsimp only
    by_cases e : getI a n = some y
    · rw [if_pos e]
      dsimp only
      rw [if_neg (fun h => by have := ((gone_iff hnb n).1 h).2; rw [hg] at this; cases this)]
      exact e
    · rw [if_neg e]
theorem gone_asc {a b : List It} (ha : itsOk a = true) : ascB 0 99 (-1) (goneL a b) = true := by
  have h := itsOk_parts (itsOk_filter ha (goneB (byL b)))
  exact ascB_of _ _ (fun x hx => by obtain ⟨s, hs, rfl⟩ := List.mem_map.1 hx; have := h.2.2.1 s hs; exact ⟨by omega, this⟩) h.2.1
def dfC (a b : List It) : Cp := ⟨1, 1, 0, 0, chgL a b, goneL a b⟩
theorem differ_valid {a b : List It} (ha : itsOk a = true) (hb : itsOk b = true) (ka : ∀ s ∈ a, s.kind ≠ 2) (kb : ∀ s ∈ b, s.kind ≠ 2) : validCopyB [⟨1, a⟩] (dfC a b) = true := by
  have kn : ∀ l : List It, (∀ s ∈ l, s.kind ≠ 2) → knownB [⟨1, a⟩] l = true := fun l hl => by
    unfold knownB
    rw [List.all_eq_true]
    intro s hs
    unfold inItem
    simp [hl s hs]
  have lv : ∀ (l : List It) (lv : Int), (∀ s ∈ l, s.kind ≠ 2) → ∀ D, l.foldl (lvStep D) lv = lv := fun l => by
    induction l with
    | nil => intro lv _ D; rfl
    | cons s l ih =>
      intro lv hl D
      rw [List.foldl_cons, show lvStep D lv s = lv by unfold lvStep; rw [if_neg (hl s (by simp))]]
      exact ih lv (fun t ht => hl t (List.mem_cons_of_mem _ ht)) D
  have dp : ∀ t, deepN [⟨1, a⟩] (t + 1) = [(1, 1)] := by
    intro t
    have st : ∀ D, dStep D ⟨1, a⟩ = putD 1 1 D := fun D => by
      unfold dStep levels
      rw [lv a 1 ka D]
      rfl
    induction t with
    | zero => show dStep [] ⟨1, a⟩ = _; rw [st]; rfl
    | succ t ih => show dStep (deepN [⟨1, a⟩] (t + 1)) ⟨1, a⟩ = _; rw [ih, st]; rfl
  have hv : validB [⟨1, a⟩] = true := by
    unfold validB
    rw [show deepN [⟨1, a⟩] 12 = [(1, 1)] from dp 11]
    simp only [Bool.and_eq_true, decide_eq_true_eq, List.all_cons, List.all_nil, Bool.and_true]
    refine ⟨⟨⟨by simp, by rfl⟩, ?_⟩, by simp⟩
    unfold moOk
    rw [ha, kn a ka]
    rfl
  unfold validCopyB
  rw [hv, show knownB [⟨1, a⟩] (dfC a b).changes = true from kn _ (fun s hs => kb s (List.mem_filter.1 hs).1)]
  have hc : cpOk (dfC a b) = true := by
    unfold cpOk dfC
    dsimp only
    rw [chg_nd hb, gone_asc ha]
    have : ((chgL a b).any fun s => decide (s.id ∈ goneL a b)) = false := by
      rw [List.any_eq_false]
      intro s hs
      simp only [decide_eq_true_eq]
      intro hm
      have h1 := ((gone_iff (itsOk_nd hb) s.id).1 hm).2
      exact getI_none.1 h1 (List.mem_map.2 ⟨s, (List.mem_filter.1 hs).1, rfl⟩)
    rw [this]
    rfl
  rw [hc]
  rfl
theorem differ_made {a b s : List It} (ha : itsOk a = true) (hb : itsOk b = true) (h : SortOf (madeM [⟨1, a⟩] (dfC a b)) s) : s = b := by
  refine sort_ext h (nd_putAll _ _ (nd_delAll _ _ (nd_byL _))) (itsOk_parts hb).2.1 (fun n => ?_)
  exact differ_leads ha hb n
end Go.Proofs.Ytncdombfhcfobaa
/- Plain laws: what Merge answers. -/
namespace Go.Proofs.Ytncdombfhcfobaa
open Go.RowKit
theorem itOk_kind {s : It} (h : itOk s = true) : s.kind ≠ 0 := by
  rcases (itOk_parts h).2 with ⟨h, _⟩ | ⟨h, _⟩ <;> omega
theorem atI_byL {l : List It} (h : itsOk l = true) (n : Int) : atI' (byL l) n = atI' l n := by
  unfold atI'
  rw [getI_byL (itsOk_nd h)]
/-- an item is there just where its kind is not 0 -/
theorem get_at {l : List It} (h : itsOk l = true) (n : Int) : getI l n = if (atI' l n).kind = 0 then none else some (atI' l n) := by
  unfold atI'
  cases hg : getI l n with
  | none => rfl
  | some x =>
    have hx := (itsOk_parts h).2.2.2 x (getI_some hg).1
    dsimp only [Option.getD_some]
    rw [if_neg (itOk_kind hx)]
theorem get_inj {l k : List It} (h : itsOk l = true) (h' : itsOk k = true) (n : Int) : getI l n = getI k n ↔ atI' l n = atI' k n := by
  constructor
  · intro e; unfold atI'; rw [e]
  · intro e; rw [get_at h, get_at h', e]
theorem nd_mgM (lz lo lt : List It) : ∀ N, ((mgM lz lo lt N).map (·.id)).Nodup
  | 0 => List.nodup_nil
  | N + 1 => by
    unfold mgM
    split
    · exact nd_mgM lz lo lt N
    · exact nd_put _ _ (nd_mgM lz lo lt N)
theorem getI_mgM (lz lo lt : List It) : ∀ (N : Nat) (n : Nat), getI (mgM lz lo lt N) n = if n < N ∧ (mgAt lz lo lt n).kind ≠ 0 then some (mgAt lz lo lt n) else none
  | 0, n => by simp [mgM, getI_nil]
  | N + 1, n => by
    have ih := getI_mgM lz lo lt N n
    unfold mgM
    by_cases hk : (mgAt lz lo lt N).kind = 0
    · rw [if_pos hk, ih]
      by_cases hn : n = N
      · subst hn; simp [hk]
      · by_cases h2 : n < N
        · simp [h2, Nat.lt_succ_of_lt h2]
        · simp [h2, show ¬ n < N + 1 by omega]
    · rw [if_neg hk, getI_put, mgX_id hk, ih]
      by_cases hn : n = N
      · subst hn; simp [hk]
      · rw [if_neg (by omega)]
        by_cases h2 : n < N
        · simp [h2, Nat.lt_succ_of_lt h2]
        · simp [h2, show ¬ n < N + 1 by omega]
theorem mgM_ids (lz lo lt : List It) : ∀ (N : Nat) (j : Int), j ∈ (mgM lz lo lt N).map (·.id) → 0 ≤ j ∧ j < (N : Int)
  | 0, j, h => by cases h
  | N + 1, j, h => by
    unfold mgM at h
    split at h
    · have := mgM_ids lz lo lt N j h; omega
    · rename_i hk
      rcases (ids_put _ _ j).1 h with e | e
      · rw [e, mgX_id hk]; omega
      · have := mgM_ids lz lo lt N j e; omega
/-- a merged module is known by what it has at each number -/
theorem mg_is {lz lo lt T s : List It} (hT : itsOk T = true) (h : ∀ n : Nat, n < 100 → mgAt lz lo lt n = atI' T n) (hs : SortOf (mgM lz lo lt 100) s) : s = T := by
  refine sort_ext hs (nd_mgM lz lo lt 100) (itsOk_parts hT).2.1 (fun n => ?_)
  by_cases hn : 0 ≤ n ∧ n < 100
  · obtain ⟨m, rfl⟩ : ∃ m : Nat, n = m := ⟨n.toNat, by omega⟩
    rw [getI_mgM, get_at hT, h m (by omega)]
    by_cases hk : (atI' T m).kind = 0
    · simp [hk]
    · simp [hk, show m < 100 by omega]
  · rw [getI_none.2 (fun hm => hn (by have := mgM_ids lz lo lt 100 n hm; omega)), getI_none.2 (fun hm => ?_)]
    obtain ⟨x, hx, rfl⟩ := List.mem_map.1 hm
    have := (itsOk_parts hT).2.2.1 x hx
    omega
theorem mgG_nil {lz lo lt : List It} : ∀ N, (∀ n : Nat, n < N → mgC (atI' lz n) (atI' lo n) (atI' lt n) = false) → mgG lz lo lt N = []
  | 0, _ => rfl
  | N + 1, h => by
    unfold mgG
    rw [h N (by omega)]
    exact mgG_nil N (fun n hn => h n (by omega))
theorem mgG_congr {lz lo lt lz' lo' lt' : List It} : ∀ N, (∀ n : Nat, n < N → mgC (atI' lz n) (atI' lo n) (atI' lt n) = mgC (atI' lz' n) (atI' lo' n) (atI' lt' n)) → mgG lz lo lt N = mgG lz' lo' lt' N
  | 0, _ => rfl
  | N + 1, h => by
    unfold mgG
    rw [h N (by omega), mgG_congr N (fun n hn => h n (by omega))]
theorem mgC_sym (z o t : It) : mgC z o t = mgC z t o := by
  unfold mgC
  by_cases h1 : t = z <;> by_cases h2 : o = z <;> by_cases h3 : o = t <;> simp_all [eq_comm]
theorem mgX_sym {z o t : It} (h : mgC z o t = false) : mgX z o t = mgX z t o := by
  unfold mgC at h
  unfold mgX
  by_cases h1 : t = z <;> by_cases h2 : o = z <;> by_cases h3 : o = t <;> simp_all
/-- with what is unchanged: the other one -/
theorem mg_left {z a s : List It} (hz : itsOk z = true) (ha : itsOk a = true) (hs : SortOf (mgM (byL z) (byL a) (byL z) 100) s) : s = a ∧ mgG (byL z) (byL a) (byL z) 100 = [] := by
  refine ⟨mg_is ha (fun n _ => ?_) hs, mgG_nil 100 (fun n _ => ?_)⟩
  · unfold mgAt mgX
    rw [atI_byL hz, atI_byL ha, if_pos rfl]
  · unfold mgC
    simp
theorem mg_right {z b s : List It} (hz : itsOk z = true) (hb : itsOk b = true) (hs : SortOf (mgM (byL z) (byL z) (byL b) 100) s) : s = b ∧ mgG (byL z) (byL z) (byL b) 100 = [] := by
  refine ⟨mg_is hb (fun n _ => ?_) hs, mgG_nil 100 (fun n _ => ?_)⟩
  · unfold mgAt mgX
    rw [atI_byL hz, atI_byL hb]
    split
    · rename_i h; exact h.symm
    · rw [if_pos rfl]
  · unfold mgC
    simp
theorem mg_both {z a s : List It} (hz : itsOk z = true) (ha : itsOk a = true) (hs : SortOf (mgM (byL z) (byL a) (byL a) 100) s) : s = a ∧ mgG (byL z) (byL a) (byL a) 100 = [] := by
  refine ⟨mg_is ha (fun n _ => ?_) hs, mgG_nil 100 (fun n _ => ?_)⟩
  · unfold mgAt mgX
    rw [atI_byL hz, atI_byL ha]
    split
    · rfl
    · rfl
  · unfold mgC
    simp
theorem mgG_sym (z a b : List It) : mgG z a b 100 = mgG z b a 100 := mgG_congr 100 (fun _ _ => mgC_sym _ _ _)
theorem mgG_false {lz lo lt : List It} : ∀ N, mgG lz lo lt N = [] → ∀ n : Nat, n < N → mgC (atI' lz n) (atI' lo n) (atI' lt n) = false
  | 0, _, _, hn => by omega
  | N + 1, h, n, hn => by
    unfold mgG at h
    cases hc : mgC (atI' lz N) (atI' lo N) (atI' lt N) with
    | true => rw [hc] at h; simp at h
    | false =>
      rw [hc] at h
      by_cases e : n = N
      · subst e; exact hc
      · exact mgG_false N h n (by omega)
theorem mgM_congr {lz lo lt lz' lo' lt' : List It} : ∀ N, (∀ n : Nat, n < N → mgAt lz lo lt n = mgAt lz' lo' lt' n) → mgM lz lo lt N = mgM lz' lo' lt' N
  | 0, _ => rfl
  | N + 1, h => by
    unfold mgM
    rw [h N (by omega), mgM_congr N (fun n hn => h n (by omega))]
/-- where nothing is contested, the order plays no part -/
theorem mg_sym {z a b s t : List It} (hn : mgG z a b 100 = []) (hs : SortOf (mgM z a b 100) s) (ht : SortOf (mgM z b a 100) t) : s = t := by
  have e : mgM z a b 100 = mgM z b a 100 := mgM_congr 100 (fun n h => mgX_sym (mgG_false 100 hn n h))
  rw [← e] at ht
  exact SortOf.uniq (nd_mgM z a b 100) (List.Perm.refl _) hs ht
/-- how many are contested below n -/
theorem mgG_mono (lz lo lt : List It) : ∀ (N n : Nat), n ≤ N → (mgG lz lo lt n) <+: (mgG lz lo lt N)
  | 0, n, h => by rw [Nat.le_zero.1 h]; exact List.prefix_refl _
  | N + 1, n, h => by
    by_cases e : n = N + 1
    · subst e; exact List.prefix_refl _
    · refine (mgG_mono lz lo lt N n (by omega)).trans ?_
      show _ <+: (if _ then _ else _)
      split
      · exact List.prefix_append _ _
      · exact List.prefix_refl _
end Go.Proofs.Ytncdombfhcfobaa
