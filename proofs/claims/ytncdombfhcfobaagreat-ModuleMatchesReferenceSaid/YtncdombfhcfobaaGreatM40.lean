/- Plain laws: what Made, Instance and Replace give is valid; what becomes of an instance if its definition changes. -/
import Derived.Test.YtncdombfhcfobaaGreatM38
namespace Go.Proofs.YtncdombfhcfobaaGreat
open Go.RowKit
/-- modules with the numbers 1, 2 and so on, whose inner modules are of lesser ones -/
structure Low (ms : List Mo) : Prop where
  ids : ∀ i (h : i < ms.length), ms[i].id = (i : Int) + 1
  len : ms.length ≤ 5
  ok : ∀ m ∈ ms, itsOk m.items = true
  low : ∀ m ∈ ms, ∀ s ∈ m.items, s.kind = 2 → 1 ≤ s.mod ∧ s.mod < m.id
theorem Low.id_of {ms : List Mo} (h : Low ms) {m : Mo} (hm : m ∈ ms) : 1 ≤ m.id ∧ m.id ≤ ms.length := by
  obtain ⟨i, hi, rfl⟩ := List.getElem_of_mem hm
  rw [h.ids i hi]
  omega
theorem Low.asc {ms : List Mo} (h : Low ms) : (ms.map (·.id)).Pairwise (· < ·) := by
  rw [List.pairwise_iff_getElem]
  intro i j hi hj hij
  simp only [List.length_map] at hi hj
  rw [List.getElem_map, List.getElem_map, h.ids i hi, h.ids j hj]
  omega
theorem Low.nd {ms : List Mo} (h : Low ms) : (ms.map (·.id)).Nodup := pair_ne h.asc
theorem Low.find {ms : List Mo} (h : Low ms) {n : Int} (h1 : 1 ≤ n) (h2 : n ≤ ms.length) : findM ms n = some (ms[(n - 1).toNat]'(by omega)) := by
  have hi : (n - 1).toNat < ms.length := by omega
  have e := h.ids _ hi
  have := findM_of h.nd (List.getElem_mem hi)
  rwa [e, show ((n - 1).toNat : Int) + 1 = n by omega] at this
theorem Low.isFound {ms : List Mo} (h : Low ms) {n : Int} (h1 : 1 ≤ n) (h2 : n ≤ ms.length) : (findM ms n).isSome = true := by rw [h.find h1 h2]; rfl
theorem Low.its {ms : List Mo} (h : Low ms) (i : Nat) (hi : i < ms.length) : itemsOf ms ((i : Int) + 1) = ms[i].items := by
  rw [← h.ids i hi]
  exact itemsOf_of h.nd (List.getElem_mem hi)
theorem Low.known {ms : List Mo} (h : Low ms) {l : List It} (hl : ∀ s ∈ l, s.kind = 2 → 1 ≤ s.mod ∧ s.mod ≤ ms.length) : knownB ms l = true := by
  unfold knownB
  rw [List.all_eq_true]
  intro s hs
  unfold inItem
  by_cases hk : s.kind = 2
  · rw [h.isFound (hl s hs hk).1 (hl s hs hk).2]; simp
  · simp [hk]
/-! how deep -/
def LowD (D : List (Int × Int)) (K : Int) : Prop := ∀ i : Int, 1 ≤ i → i ≤ K → ∃ n, D.lookup i = some n ∧ n ≤ i
theorem lvl_low {D : List (Int × Int)} {c : Int} (hD : LowD D (c - 1)) : ∀ (l : List It) (lv : Int), lv ≤ c → (∀ s ∈ l, s.kind = 2 → 1 ≤ s.mod ∧ s.mod < c) → l.foldl (lvStep D) lv ≤ c
  | [], _, h, _ => h
  | s :: l, lv, h, hl => by
    rw [List.foldl_cons]
    refine lvl_low hD l _ ?_ (fun t ht => hl t (List.mem_cons_of_mem _ ht))
    unfold lvStep
    by_cases hk : s.kind = 2
    · rw [if_pos hk]
      obtain ⟨h1, h2⟩ := hl s (by simp) hk
      obtain ⟨n, e, hn⟩ := hD s.mod h1 (by omega)
      rw [e]
      dsimp only
      split <;> omega
    · rw [if_neg hk]; exact h
theorem dStep_low {D : List (Int × Int)} {K : Int} (hD : LowD D K) {m : Mo} (h1 : 1 ≤ m.id) (h2 : m.id ≤ K + 1) (h5 : m.id ≤ 5) (hr : ∀ s ∈ m.items, s.kind = 2 → 1 ≤ s.mod ∧ s.mod < m.id) : LowD (dStep D m) (max K m.id) := by
  have hl : levels D m.items ≤ m.id := lvl_low (fun i a b => hD i a (by omega)) m.items 1 h1 hr
  unfold dStep
  rw [if_pos (by omega)]
  intro i a b
  rw [lookup_putD]
  by_cases e : i = m.id
  · rw [if_pos e]; exact ⟨_, rfl, by omega⟩
  · rw [if_neg e]; exact hD i a (by omega)
theorem Low.round1 {ms : List Mo} (h : Low ms) : ∀ j, j ≤ ms.length → LowD ((ms.take j).foldl dStep []) j
  | 0, _ => fun i a b => by omega
  | j + 1, hj => by
    have ih := h.round1 j (by omega)
    rw [dFold_snoc ms [] j (by omega)]
    have e := h.ids j (by omega)
    have hl := h.len
    have := dStep_low ih (m := ms[j]'(by omega)) (by omega) (by omega) (by omega) (h.low _ (List.getElem_mem _))
    rw [e, show max (j : Int) ((j : Int) + 1) = ((j + 1 : Nat) : Int) by omega] at this
    exact this
theorem Low.fold {ms : List Mo} (h : Low ms) : ∀ (l : List Mo) (D : List (Int × Int)), (∀ m ∈ l, m ∈ ms) → LowD D ms.length → LowD (l.foldl dStep D) ms.length
  | [], _, _, hD => hD
  | m :: l, D, hl, hD => by
    rw [List.foldl_cons]
    have hm := hl m (by simp)
    have hi := h.id_of hm
    have hn := h.len
    have := dStep_low hD (m := m) hi.1 (by omega) (by omega) (h.low m hm)
    rw [show max (ms.length : Int) m.id = ms.length by omega] at this
    exact h.fold l _ (fun x hx => hl x (List.mem_cons_of_mem _ hx)) this
theorem Low.deep {ms : List Mo} (h : Low ms) : ∀ t, LowD (deepN ms (t + 1)) ms.length
  | 0 => by
    have := h.round1 ms.length (Nat.le_refl _)
    rw [List.take_length] at this
    exact this
  | t + 1 => h.fold ms _ (fun _ hm => hm) (h.deep t)
theorem dFold_keys : ∀ (l : List Mo) (D : List (Int × Int)), (D.map (·.1)).Nodup → ((l.foldl dStep D).map (·.1)).Nodup ∧ ∀ k ∈ (l.foldl dStep D).map (·.1), k ∈ D.map (·.1) ∨ k ∈ l.map (·.id)
  | [], D, h => ⟨h, fun k hk => .inl hk⟩
  | m :: l, D, h => by
    rw [List.foldl_cons]
    have h' : ((dStep D m).map (·.1)).Nodup ∧ ∀ k ∈ (dStep D m).map (·.1), k = m.id ∨ k ∈ D.map (·.1) := by
      unfold dStep
      split
      · exact ⟨putD_nodup _ _ D h, fun k hk => (putD_keys _ _ D k).1 hk⟩
      · exact ⟨h, fun k hk => .inr hk⟩
    obtain ⟨k1, k2⟩ := dFold_keys l (dStep D m) h'.1
    refine ⟨k1, fun k hk => ?_⟩
    rcases k2 k hk with e | e
    · rcases h'.2 k e with e | e
      · exact .inr (by rw [e]; simp)
      · exact .inl e
    · exact .inr (List.mem_cons_of_mem _ e)
theorem deepN_keys (ms : List Mo) : ∀ t, ((deepN ms t).map (·.1)).Nodup ∧ ∀ k ∈ (deepN ms t).map (·.1), k ∈ ms.map (·.id)
  | 0 => ⟨List.nodup_nil, fun k hk => by cases hk⟩
  | t + 1 => by
    obtain ⟨h1, h2⟩ := deepN_keys ms t
    obtain ⟨k1, k2⟩ := dFold_keys ms (deepN ms t) h1
    refine ⟨k1, fun k hk => ?_⟩
    rcases k2 k hk with e | e
    · exact h2 k e
    · exact e
theorem key_of : ∀ (D : List (Int × Int)) (k n : Int), D.lookup k = some n → k ∈ D.map (·.1)
  | [], k, n, h => by simp at h
  | (a, b) :: D, k, n, h => by
    by_cases e : k = a
    · subst e; simp
    · rw [List.lookup_cons, beq_eq_false_iff_ne.2 e] at h
      exact List.mem_cons_of_mem _ (key_of D k n h)
theorem Low.valid {ms : List Mo} (h : Low ms) : validB ms = true := by
  have hn := h.len
  have hl : (deepN ms 12).length = ms.length := by
    obtain ⟨k1, k2⟩ := deepN_keys ms 12
    have hd := h.deep 11
    have := ((List.perm_ext_iff_of_nodup k1 h.nd).2 fun k => ⟨k2 k, fun hk => ?_⟩).length_eq
    · simpa using this
    · obtain ⟨m, hm, rfl⟩ := List.mem_map.1 hk
      obtain ⟨n, e, _⟩ := hd m.id (h.id_of hm).1 (h.id_of hm).2
      exact key_of _ _ _ e
  unfold validB
  simp only [Bool.and_eq_true, decide_eq_true_eq, List.all_eq_true]
  refine ⟨⟨⟨by omega, ascB_of _ _ (fun x hx => ?_) h.asc⟩, fun m hm => ?_⟩, hl⟩
  · obtain ⟨m, hm, rfl⟩ := List.mem_map.1 hx
    have := h.id_of hm
    omega
  · have hi := h.id_of hm
    unfold moOk
    rw [h.ok m hm, h.known (fun s hs hk => by have := h.low m hm s hs hk; omega)]
    simp only [Bool.and_eq_true, and_true, inB_iff]
    omega
/-! Made -/
theorem madeN_get (xs : List (List I3)) : ∀ (k i : Nat) (h : i < (madeN xs k).length), (madeN xs k)[i] = ⟨(i : Int) + 1, givenL ((i : Int) + 1) (xs.getD i [])⟩
  | 0, i, h => by simp [madeN] at h
  | k + 1, i, h => by
    simp only [madeN]
    have hk := madeN_len xs k
    by_cases hi : i < k
    · rw [List.getElem_append_left (by omega)]
      exact madeN_get xs k i (by omega)
    · have hlen : i < k + 1 := by have := madeN_len xs (k + 1); omega
      obtain rfl : i = k := by omega
      rw [List.getElem_append_right (by omega)]
      simp
theorem made_low (xs : List (List I3)) : Low (madeL xs) := by
  unfold madeL
  have hl := madeN_len xs (min xs.length 5)
  have all : ∀ m ∈ madeN xs (min xs.length 5), ∃ i : Nat, i < 5 ∧ m = ⟨(i : Int) + 1, givenL ((i : Int) + 1) (xs.getD i [])⟩ := fun m hm => by
    obtain ⟨i, hi, rfl⟩ := List.getElem_of_mem hm
    exact ⟨i, by omega, madeN_get xs _ i hi⟩
  refine ⟨fun i hi => by rw [madeN_get], by omega, fun m hm => ?_, fun m hm s hs hk => ?_⟩
  · obtain ⟨i, hi, rfl⟩ := all m hm
    exact (given_ok _ (by omega) _).1
  · obtain ⟨i, hi, rfl⟩ := all m hm
    have := (given_ok _ (by omega) _).2 s hs hk
    exact this.2
/-! Instance -/
/-- an instance that is valid beside L modules -/
structure CLow (L : Nat) (c : Cp) : Prop where
  code : codeB c.code = true
  mod : 1 ≤ c.mod ∧ c.mod ≤ L
  pl : plB c.x c.y = true
  ok : itsOk c.changes = true
  ref : ∀ s ∈ c.changes, s.kind = 2 → 1 ≤ s.mod ∧ s.mod ≤ L
  asc : ascB 0 99 (-1) c.gone = true
  dis : ∀ s ∈ c.changes, s.id ∉ c.gone
theorem CLow.valid {ms : List Mo} {c : Cp} (h : Low ms) (hc : CLow ms.length c) : validCopyB ms c = true := by
  have hn := h.len
  have hm := hc.mod
  unfold validCopyB
  rw [h.valid, h.isFound hm.1 hm.2, h.known hc.ref]
  have hcp : cpOk c = true := by
    unfold cpOk
    rw [hc.code, hc.pl, hc.ok, hc.asc, show inB c.mod 1 20 = true from inB_iff.2 (by omega)]
    have : (c.changes.any fun s => decide (s.id ∈ c.gone)) = false := by
      rw [List.any_eq_false]
      intro s hs
      simpa using hc.dis s hs
    rw [this]
    rfl
  rw [hcp]
  rfl
theorem ascB_filter {lo hi p : Int} {l : List Int} (h : ascB lo hi p l = true) (q : Int → Bool) : ascB lo hi p (l.filter q) = true := by
  obtain ⟨h1, h2⟩ := ascB_parts l p h
  exact ascB_of _ _ (fun x hx => h2 x (List.mem_filter.1 hx).1) (h1.sublist List.filter_sublist)
theorem CLow.sub {L : Nat} {c : Cp} (h : CLow L c) (p : It → Bool) (q : Int → Bool) : CLow L ⟨c.code, c.mod, c.x, c.y, c.changes.filter p, c.gone.filter q⟩ :=
  ⟨h.code, h.mod, h.pl, itsOk_filter h.ok p, fun s hs => h.ref s (List.mem_filter.1 hs).1, ascB_filter h.asc q, fun s hs hg => h.dis s (List.mem_filter.1 hs).1 (List.mem_filter.1 hg).1⟩
theorem CLow.reb {L : Nat} {c : Cp} (h : CLow L c) (now : List It) : CLow L (rebC now c) := h.sub _ _
theorem goneN_mem (ch : List It) (g : Int) : ∀ (k : Nat) (n : Int), n ∈ goneN ch g k → 0 ≤ n ∧ n < k ∧ getI ch n = none
  | 0, n, h => by cases h
  | k + 1, n, h => by
    unfold goneN at h
    split at h
    · rename_i hc
      rcases List.mem_append.1 h with h | h
      · have := goneN_mem ch g k n h
        exact ⟨this.1, by omega, this.2.2⟩
      · rw [List.mem_singleton.1 h]
        simp only [Bool.and_eq_true] at hc
        exact ⟨by omega, by omega, by simpa using hc.1⟩
    · have := goneN_mem ch g k n h
      exact ⟨this.1, by omega, this.2.2⟩
theorem goneN_asc (ch : List It) (g : Int) : ∀ k, (goneN ch g k).Pairwise (· < ·)
  | 0 => List.Pairwise.nil
  | k + 1 => by
    unfold goneN
    split
    · refine List.pairwise_append.2 ⟨goneN_asc ch g k, by simp, fun x hx y hy => ?_⟩
      rw [List.mem_singleton.1 hy]
      exact (goneN_mem ch g k x hx).2.1
    · exact goneN_asc ch g k
theorem inst_low {ms : List Mo} (h : Low ms) (hn : ms ≠ []) (which : Int) (x : List I3) (g : Int) : CLow ms.length (instC ms which x g) := by
  have hl : 0 < ms.length := List.length_pos_iff.2 hn
  have hp := pk_range which ms.length (by omega)
  have hi : (pk which ms.length).toNat < ms.length := by omega
  have hM : instM ms which = ((pk which ms.length).toNat : Int) + 1 := by
    unfold instM
    rw [List.getD_eq_getElem?_getD, List.getElem?_eq_getElem hi]
    exact h.ids _ hi
  have h5 := h.len
  have hg := given_ok (instM ms which) (by omega) (x.take 3)
  have h1 := pk_range which 40 (by omega)
  have h2 := pk_range g 900 (by omega)
  have h3 := pk_range which 2000 (by omega)
  have h4 := pk_range g 2000 (by omega)
  refine ⟨?_, ?_, ?_, hg.1, fun s hs hk => ?_, ?_, fun s hs hm => ?_⟩
  · show codeB (1 + 1000 * pk which 40 + pk g 900) = true
    unfold codeB
    simp only [Bool.and_eq_true, Bool.not_eq_true', decide_eq_false_iff_not, inB_iff]
    refine ⟨by omega, ?_⟩
    rw [Int.tmod_eq_emod_of_nonneg (by omega)]
    omega
  · show 1 ≤ instM ms which ∧ instM ms which ≤ ms.length
    omega
  · show plB (pk which 2000) (pk g 2000) = true
    unfold plB
    simp only [Bool.and_eq_true, inB_iff]
    omega
  · have := hg.2 s hs hk
    omega
  · refine ascB_of _ _ (fun y hy => ?_) (goneN_asc _ _ 12)
    have := goneN_mem _ _ _ _ hy
    omega
  · have h6 := (goneN_mem _ _ _ _ hm).2.2
    exact getI_none.1 h6 (List.mem_map.2 ⟨s, hs, rfl⟩)
/-! Replace -/
theorem rFold_low {ms : List Mo} (h : Low ms) {next : Mo} {p : Nat} (hp : p < ms.length) (hid : next.id = (p : Int) + 1) : ∀ j, j ≤ ms.length → rFold next (ms.take j) = ((ms.set p next).take j, decide (p < j))
  | 0, _ => by simp [rFold]
  | j + 1, hj => by
    have e := h.ids j (by omega)
    rw [rFold_snoc next ms j (by omega), rFold_low h hp hid j (by omega), List.take_succ_eq_append_getElem (by simp; omega), List.getElem_set]
    by_cases h1 : j < p
    · rw [rStep_b (by intro hc; omega), if_neg (by omega), if_neg (by omega), decide_eq_false (by omega), decide_eq_false (by omega)]
    · by_cases h2 : j = p
      · subst h2
        rw [decide_eq_false (by omega), rStep_a (by omega), if_pos (by omega), if_pos rfl, decide_eq_true (by omega)]
      · rw [decide_eq_true (show p < j by omega), rStep_b (by intro hc; simp at hc), if_neg (by omega), if_neg (by omega), decide_eq_true (show p < j + 1 by omega)]
theorem repl_low {ms : List Mo} (h : Low ms) {next : Mo} {p : Nat} (hp : p < ms.length) (hid : next.id = (p : Int) + 1) : replL next ms = ms.set p next := by
  have := rFold_low h hp hid ms.length (Nat.le_refl _)
  rw [List.take_length, List.take_of_length_le (by simp)] at this
  unfold replL
  rw [this, decide_eq_true hp]
  rfl
theorem Low.set {ms : List Mo} (h : Low ms) {next : Mo} {p : Nat} (hid : next.id = (p : Int) + 1) (hok : itsOk next.items = true) (hlow : ∀ s ∈ next.items, s.kind = 2 → 1 ≤ s.mod ∧ s.mod < next.id) : Low (ms.set p next) := by
  refine ⟨fun i hi => ?_, by simpa using h.len, fun m hm => ?_, fun m hm => ?_⟩
  · rw [List.getElem_set]
    split
    · rename_i e; rw [hid, e]
    · exact h.ids i (by simpa using hi)
  · rcases List.mem_or_eq_of_mem_set hm with hm | rfl
    · exact h.ok m hm
    · exact hok
  · rcases List.mem_or_eq_of_mem_set hm with hm | rfl
    · exact h.low m hm
    · exact hlow
/-! what an instance has -/
theorem madeM_nd (ms : List Mo) (c : Cp) : ((madeM ms c).map (·.id)).Nodup := nd_putAll _ _ (nd_delAll _ _ (nd_byL _))
theorem getI_made {ms : List Mo} {c : Cp} (hc : (c.changes.map (·.id)).Nodup) (hm : ((itemsOf ms c.mod).map (·.id)).Nodup) (n : Int) :
    getI (madeM ms c) n = match getI c.changes n with | some x => some x | none => if n ∈ c.gone then none else getI (itemsOf ms c.mod) n := by
  unfold madeM
  rw [getI_putAll _ _ _ hc, getI_delAll _ _ _ (nd_byL _), getI_byL hm]
  cases getI c.changes n <;> rfl
theorem getI_perm {l s : List It} (hl : (l.map (·.id)).Nodup) (h : s.Perm l) (n : Int) : getI s n = getI l n := by
  have hs : (s.map (·.id)).Nodup := ((h.map (·.id)).nodup_iff).2 hl
  cases hg : getI l n with
  | none =>
    rw [getI_none] at hg ⊢
    exact fun hm => hg (((h.map (·.id)).mem_iff).1 hm)
  | some x =>
    obtain ⟨h1, rfl⟩ := getI_some hg
    exact (getI_mem hs).1 (h.mem_iff.2 h1)
theorem SortOf.lt {l s : List It} (hl : (l.map (·.id)).Nodup) (h : SortOf l s) : (s.map (·.id)).Pairwise (· < ·) := by
  have hs : (s.map (·.id)).Nodup := ((h.1.map (·.id)).nodup_iff).2 hl
  rw [List.pairwise_map]
  refine (List.Pairwise.and h.2 (List.pairwise_map.1 hs)).imp fun {a b} hab => ?_
  obtain ⟨h1, h2⟩ := hab
  omega
/-- two sorted lists that have the same at each number are the same -/
theorem sort_same {l s l' s' : List It} (h : SortOf l s) (h' : SortOf l' s') (hl : (l.map (·.id)).Nodup) (hl' : (l'.map (·.id)).Nodup) (hg : ∀ n, getI l n = getI l' n) : s = s' :=
  sort_ext h hl (h'.lt hl') (fun n => by rw [hg, getI_perm hl' h'.1])
theorem gone_in (now : List It) (c : Cp) (n : Int) : n ∈ (rebC now c).gone ↔ n ∈ c.gone ∧ (getI now n).isSome = true := by
  show n ∈ c.gone.filter (goneP now) ↔ _
  rw [List.mem_filter]
  rfl
theorem getI_reb {now : List It} {c : Cp} (hc : (c.changes.map (·.id)).Nodup) (n : Int) : getI (rebC now c).changes n = match getI c.changes n with | some x => if getI now n = some x then none else some x | none => none := by
  show getI (c.changes.filter (changedB now)) n = _
  rw [getI_filter hc]
  cases hg : getI c.changes n with
  | none => rfl
  | some x =>
    dsimp only
    unfold changedB
    rw [getI_id hg]
    by_cases e : getI now n = some x <;> simp [e]
/-- rebased to the definition that is there, an instance has what it had beside it -/
theorem reb_made {ms : List Mo} {c : Cp} {now : List It} {L : Nat} (hc : CLow L c) (hm : ((itemsOf ms c.mod).map (·.id)).Nodup) (he : ∀ n, getI now n = getI (itemsOf ms c.mod) n) (n : Int) : getI (madeM ms (rebC now c)) n = getI (madeM ms c) n := by
  have hn := itsOk_nd hc.ok
  rw [getI_made (itsOk_nd (hc.reb now).ok) hm, getI_made hn hm, getI_reb hn, he]
  cases hg : getI c.changes n with
  | some x =>
    dsimp only
    by_cases e : getI (itemsOf ms c.mod) n = some x
    · rw [if_pos e]
      dsimp only
      have hd : n ∉ c.gone := fun hh => by
        obtain ⟨hx, rfl⟩ := getI_some hg
        exact hc.dis x hx hh
      rw [if_neg (fun hh => hd ((gone_in now c n).1 hh).1)]
      exact e
    · rw [if_neg e]
  | none =>
    dsimp only
    show (if n ∈ (rebC now c).gone then none else getI (itemsOf ms c.mod) n) = _
    by_cases h : n ∈ c.gone
    · rw [if_pos h]
      by_cases h2 : (getI now n).isSome = true
      · rw [if_pos ((gone_in now c n).2 ⟨h, h2⟩)]
      · rw [if_neg (fun hh => h2 ((gone_in now c n).1 hh).2), ← he]
        simpa using h2
    · rw [if_neg (fun hh => h ((gone_in now c n).1 hh).1), if_neg h]
/-! what is contested -/
theorem sortN_perm (l : List Int) : (sortN l).Perm l := List.mergeSort_perm _ _
theorem sortN_lt {l : List Int} (h : l.Nodup) : (sortN l).Pairwise (· < ·) := by
  have h1 : (sortN l).Pairwise (fun x y => decide (x ≤ y) = true) := List.pairwise_mergeSort (fun a b c => by simp only [decide_eq_true_eq]; omega) (fun a b => by simp only [Bool.or_eq_true, decide_eq_true_eq]; omega) l
  have h2 : (sortN l).Nodup := ((sortN_perm l).nodup_iff).2 h
  refine (List.Pairwise.and h1 h2).imp fun {a b} hab => ?_
  obtain ⟨q1, q2⟩ := hab
  simp only [decide_eq_true_eq] at q1
  omega
theorem mem_cont {old now : List It} {c : Cp} (n : Int) : n ∈ contU old now c ↔ (n ∈ c.changes.map (·.id) ∨ n ∈ c.gone) ∧ getI old n ≠ getI now n := by
  unfold contU
  rw [List.mem_filter, List.mem_append]
  unfold cntB
  simp
theorem cont_nd {old now : List It} {c : Cp} {L : Nat} (hc : CLow L c) : (contU old now c).Nodup := by
  unfold contU
  refine (List.nodup_append.2 ⟨itsOk_nd hc.ok, pair_ne (ascB_parts _ _ hc.asc).1, fun a ha b hb e => ?_⟩).sublist List.filter_sublist
  obtain ⟨s, hs, rfl⟩ := List.mem_map.1 ha
  subst e
  exact hc.dis s hs hb
theorem cont_self (old : List It) (c : Cp) : contU old old c = [] := by
  rw [List.eq_nil_iff_forall_not_mem]
  intro n hn
  exact ((mem_cont n).1 hn).2 rfl
/-- if nothing was contested, an instance that was rebased and is put back has what it had -/
theorem reb_back {ms : List Mo} {c : Cp} {now : List It} {L : Nat} (hc : CLow L c) (hm : ((itemsOf ms c.mod).map (·.id)).Nodup) (h0 : ∀ n, n ∈ c.changes.map (·.id) ∨ n ∈ c.gone → getI (itemsOf ms c.mod) n = getI now n) (n : Int) : getI (madeM ms (rebC now c)) n = getI (madeM ms c) n := by
  have hn := itsOk_nd hc.ok
  rw [getI_made (itsOk_nd (hc.reb now).ok) hm, getI_made hn hm, getI_reb hn]
  cases hg : getI c.changes n with
  | some x =>
    dsimp only
    by_cases e : getI now n = some x
    · rw [if_pos e]
      dsimp only
      obtain ⟨hx, hid⟩ := getI_some hg
      have hd : n ∉ c.gone := fun hh => by
        rw [← hid] at hh
        exact hc.dis x hx hh
      rw [if_neg (fun hh => hd ((gone_in now c n).1 hh).1)]
      show getI (itemsOf ms c.mod) n = _
      rw [h0 n (.inl (List.mem_map.2 ⟨x, hx, hid⟩))]
      exact e
    · rw [if_neg e]
  | none =>
    dsimp only
    show (if n ∈ (rebC now c).gone then none else getI (itemsOf ms c.mod) n) = _
    by_cases h : n ∈ c.gone
    · rw [if_pos h]
      by_cases h2 : (getI now n).isSome = true
      · rw [if_pos ((gone_in now c n).2 ⟨h, h2⟩)]
      · rw [if_neg (fun hh => h2 ((gone_in now c n).1 hh).2), h0 n (.inr h)]
        simpa using h2
    · rw [if_neg (fun hh => h ((gone_in now c n).1 hh).1), if_neg h]
end Go.Proofs.YtncdombfhcfobaaGreat
