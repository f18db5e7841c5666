/- Plain laws: what an instance comes to: how many boxes, in which order, where; and if a definition is not in it. -/
import Derived.Test.YtncdombfhcfobaaM40
namespace Go.Proofs.Ytncdombfhcfobaa
open Go.RowKit
theorem gvF_mem (c : Int) : ∀ (l : List I3) (k : Nat), k ≤ l.length → ∀ s ∈ (gvF c (l.take k)).2, ∃ d a, s = gvI c d a
  | l, 0, _, s, hs => by simp [gvF] at hs
  | l, k + 1, h, s, hs => by
    rw [gvF_snoc c l k (by omega)] at hs
    simp only [gvStep] at hs
    rcases List.mem_append.1 hs with hs | hs
    · exact gvF_mem c l k (by omega) s hs
    · exact ⟨_, _, List.mem_singleton.1 hs⟩
/-- items that lie near -/
def Sml (l : List It) : Prop := ∀ s ∈ l, (0 ≤ s.x ∧ s.x ≤ 49) ∧ 0 ≤ s.y ∧ s.y ≤ 49
theorem given_sml (c : Int) (l : List I3) : Sml (givenL c l) := fun s hs => by
  unfold givenL at hs
  have := gvF_mem c (l.take 5) (l.take 5).length (Nat.le_refl _) s (by rwa [List.take_length])
  obtain ⟨d, a, rfl⟩ := this
  have h1 := pk_range a.2.1 50 (by omega)
  have h2 := pk_range a.2.2 50 (by omega)
  unfold gvI
  split <;> (dsimp only; omega)
theorem made_sml (xs : List (List I3)) (n : Int) : Sml (itemsOf (madeL xs) n) := fun s hs => by
  obtain ⟨m, hm, -, hs⟩ := itemsOf_mem hs
  obtain ⟨i, hi, rfl⟩ := List.getElem_of_mem hm
  unfold madeL at hs hi
  rw [madeN_get] at hs
  exact given_sml _ _ s hs
/-- inner modules have at most the number r -/
def Rk (r : Int) (l : List It) : Prop := ∀ s ∈ l, itOk s = true ∧ (s.kind = 2 → 1 ≤ s.mod ∧ s.mod ≤ r)
theorem Low.rk {ms : List Mo} (h : Low ms) {n r : Int} (hr : n ≤ r + 1) : Rk r (itemsOf ms n) := fun s hs => by
  obtain ⟨m, hm, rfl, hs'⟩ := itemsOf_mem hs
  refine ⟨(itsOk_parts (h.ok m hm)).2.2.2 s hs', fun hk => ?_⟩
  have := h.low m hm s hs' hk
  omega
theorem Low.zero {ms : List Mo} (h : Low ms) {s : It} (hs : itOk s = true) (hk : s.kind ≠ 2) : itemsOf ms s.mod = [] := by
  refine itemsOf_none fun m hm => ?_
  have := h.id_of hm
  rcases (itOk_parts hs).2 with ⟨_, _, e⟩ | ⟨e, _⟩
  · omega
  · exact absurd e hk
theorem kind1 {s : It} (hs : itOk s = true) (hk : s.kind ≠ 2) : s.kind = 1 := by
  rcases (itOk_parts hs).2 with ⟨e, _⟩ | ⟨e, _⟩
  · exact e
  · exact absurd e hk
theorem Low.rkMade {ms : List Mo} (h : Low ms) {c : Cp} (hc : CLow ms.length c) {s : List It} (hs : SortOf (madeM ms c) s) : Rk ms.length s := fun t ht => by
  rcases mem_madeM (hs.1.mem_iff.1 ht) with hm | hm
  · exact ⟨(itsOk_parts hc.ok).2.2.2 t hm, hc.ref t hm⟩
  · exact h.rk (r := ms.length) (by have := hc.mod; omega) t hm
theorem sml_made {xs : List (List I3)} {c : Cp} (hc : Sml c.changes) {s : List It} (hs : SortOf (madeM (madeL xs) c) s) : Sml s := fun t ht => by
  rcases mem_madeM (hs.1.mem_iff.1 ht) with hm | hm
  · exact hc t hm
  · exact made_sml xs _ t hm
theorem plc_nil (ms : List Mo) : ∀ (f : Nat) (path : List Int) (x y : Int), plc ms f [] path x y = []
  | 0, _, _, _ => rfl
  | _ + 1, _, _, _ => rfl
theorem plc_cons (ms : List Mo) (f : Nat) (s : It) (l : List It) (path : List Int) (x y : Int) :
    plc ms (f + 1) (s :: l) path x y = ((⟨path ++ [s.id], x + s.x, y + s.y, s.text⟩, s.kind) :: plc ms f (itemsOf ms s.mod) (path ++ [s.id]) (x + s.x) (y + s.y)) ++ plc ms (f + 1) l path x y := rfl
/-! a definition that is not in it -/
def usesB (ms : List Mo) (id : Int) : Nat → List It → Bool
  | 0, _ => false
  | f + 1, l => l.any fun s => decide (s.kind = 2) && (decide (s.mod = id) || ms.any fun m => decide (m.id = s.mod) && usesB ms id f m.items)
theorem plc_same {ms : List Mo} (h : Low ms) {next : Mo} {p : Nat} (hp : p < ms.length) (hid : next.id = (p : Int) + 1) (hL : Low (ms.set p next)) : ∀ (f g : Nat) (r : Int) (l : List It) (path : List Int) (x y : Int), r ≤ g → Rk r l → r ≤ ms.length → usesB ms next.id g l = false → plc (ms.set p next) f l path x y = plc ms f l path x y
  | 0, _, _, _, _, _, _, _, _, _, _ => rfl
  | f + 1, g, r, l, path, x, y, hg, hk, hr, hu => by
    induction l with
    | nil => rfl
    | cons s l ih =>
      have hu' : usesB ms next.id g l = false := by
        cases g with
        | zero => rfl
        | succ g => unfold usesB at hu ⊢; simp only [List.any_cons, Bool.or_eq_false_iff] at hu; exact hu.2
      rw [plc_cons, plc_cons, ih (fun t ht => hk t (List.mem_cons_of_mem _ ht)) hu']
      have hs := hk s (by simp)
      by_cases h2 : s.kind = 2
      · obtain ⟨h3, h4⟩ := hs.2 h2
        cases g with
        | zero => omega
        | succ g =>
          unfold usesB at hu
          simp only [List.any_cons, Bool.or_eq_false_iff, h2, decide_true, Bool.true_and, decide_eq_false_iff_not] at hu
          obtain ⟨⟨hne, hany⟩, -⟩ := hu
          obtain ⟨i, hi⟩ : ∃ i : Nat, s.mod = (i : Int) + 1 := ⟨(s.mod - 1).toNat, by omega⟩
          have hil : i < ms.length := by omega
          have hip : i ≠ p := fun e => hne (by rw [hid, hi, e])
          have e1 : itemsOf ms s.mod = ms[i].items := by rw [hi]; exact h.its i hil
          have e2 : itemsOf (ms.set p next) s.mod = ms[i].items := by
            rw [hi, hL.its i (by simpa using hil), List.getElem_set_ne (fun e => hip e.symm)]
          have hub : usesB ms next.id g ms[i].items = false := by
            rw [List.any_eq_false] at hany
            have := hany ms[i] (List.getElem_mem hil)
            simpa [h.ids i hil, hi] using this
          have hsub := plc_same h hp hid hL f g (s.mod - 1) ms[i].items (path ++ [s.id]) (x + s.x) (y + s.y) (by omega) (by rw [← e1]; exact h.rk (by omega)) (by omega) hub
          rw [e1, e2, hsub]
      · rw [h.zero hs.1 h2, hL.zero hs.1 h2, plc_nil, plc_nil]
theorem made_same {ms : List Mo} (h : Low ms) {next : Mo} {p : Nat} (hid : next.id = (p : Int) + 1) (hL : Low (ms.set p next)) {c : Cp} (hc : CLow ms.length c) (hne : c.mod ≠ next.id) : madeM (ms.set p next) c = madeM ms c := by
  unfold madeM
  have hm := hc.mod
  obtain ⟨i, hi⟩ : ∃ i : Nat, c.mod = (i : Int) + 1 := ⟨(c.mod - 1).toNat, by omega⟩
  have hil : i < ms.length := by omega
  have hip : i ≠ p := fun e => hne (by rw [hid, hi, e])
  rw [hi, h.its i hil, hL.its i (by simpa using hil), List.getElem_set_ne (fun e => hip e.symm)]
/-! how many boxes -/
def bxS (ms : List Mo) : Nat → List It → Nat
  | 0, _ => 0
  | f + 1, l => l.foldl (fun n s => if n < 1000 then (if s.kind = 1 then n + 1 else n + bxS ms f (itemsOf ms s.mod)) else n) 0
def cnt (ms : List Mo) : Nat → List It → Nat
  | 0, _ => 0
  | f + 1, l => (l.map fun s => (if s.kind = 1 then 1 else 0) + cnt ms f (itemsOf ms s.mod)).sum
theorem cnt_nil (ms : List Mo) : ∀ f, cnt ms f [] = 0
  | 0 => rfl
  | _ + 1 => rfl
theorem cnt_cons (ms : List Mo) (f : Nat) (s : It) (l : List It) : cnt ms (f + 1) (s :: l) = (if s.kind = 1 then 1 else 0) + cnt ms f (itemsOf ms s.mod) + cnt ms (f + 1) l := by
  simp [cnt]
theorem cnt_plc (ms : List Mo) : ∀ (f : Nat) (l : List It) (path : List Int) (x y : Int), (expB (plc ms f l path x y)).length = cnt ms f l
  | 0, _, _, _, _ => rfl
  | f + 1, l, path, x, y => by
    induction l with
    | nil => rfl
    | cons s l ih =>
      rw [plc_cons, cnt_cons, ← ih, ← cnt_plc ms f (itemsOf ms s.mod) (path ++ [s.id]) (x + s.x) (y + s.y)]
      unfold expB
      rw [List.filter_append, List.map_append, List.length_append, List.filter_cons]
      by_cases h : s.kind = 1 <;> simp [h]; omega
theorem bxS_le (ms : List Mo) : ∀ (f : Nat) (l : List It), bxS ms f l ≤ 1000 * f
  | 0, _ => Nat.le_refl _
  | f + 1, l => by
    have key : ∀ (l : List It) (n : Nat), n ≤ 1000 * (f + 1) → l.foldl (fun n s => if n < 1000 then (if s.kind = 1 then n + 1 else n + bxS ms f (itemsOf ms s.mod)) else n) n ≤ 1000 * (f + 1) := fun l => by
      induction l with
      | nil => intro n h; exact h
      | cons s l ih =>
        intro n h
        rw [List.foldl_cons]
        refine ih _ ?_
        have := bxS_le ms f (itemsOf ms s.mod)
        split
        · split <;> omega
        · exact h
    exact key l 0 (by omega)
theorem bx_eq {ms : List Mo} (h : Low ms) : ∀ (f f' : Nat) (r : Int) (l : List It), 0 ≤ r → Rk r l → r < f → r < f' → r ≤ ms.length → cnt ms f' l ≤ 200 → bxS ms f l = cnt ms f' l
  | 0, f', r, l, h0, _, h1, _, _, _ => by omega
  | f + 1, 0, r, l, h0, _, _, h2, _, _ => by omega
  | f + 1, f' + 1, r, l, h0, hk, h1, h2, hr, hc => by
    have key : ∀ (l : List It) (n : Nat), Rk r l → n + cnt ms (f' + 1) l ≤ 200 → l.foldl (fun n s => if n < 1000 then (if s.kind = 1 then n + 1 else n + bxS ms f (itemsOf ms s.mod)) else n) n = n + cnt ms (f' + 1) l := fun l => by
      induction l with
      | nil => intro n _ _; rfl
      | cons s l ih =>
        intro n hk hn
        rw [cnt_cons] at hn ⊢
        rw [List.foldl_cons, if_pos (by omega)]
        have hs := hk s (by simp)
        by_cases hk1 : s.kind = 1
        · have e0 := h.zero hs.1 (by omega)
          rw [if_pos hk1, if_pos hk1, e0, cnt_nil, ih _ (fun t ht => hk t (List.mem_cons_of_mem _ ht)) (by rw [if_pos hk1] at hn; omega)]
          omega
        · have hk2 : s.kind = 2 := by
            rcases (itOk_parts hs.1).2 with ⟨e, _⟩ | ⟨e, _⟩
            · exact absurd e hk1
            · exact e
          have hm := hs.2 hk2
          have e0 := bx_eq h f f' (s.mod - 1) (itemsOf ms s.mod) (by omega) (h.rk (by omega)) (by omega) (by omega) (by omega) (by omega)
          rw [if_neg hk1, if_neg hk1, e0, ih _ (fun t ht => hk t (List.mem_cons_of_mem _ ht)) (by rw [if_neg hk1] at hn; omega)]
          omega
    have := key l 0 hk (by omega)
    rw [Nat.zero_add] at this
    exact this
/-! in which order -/
def LexLt (p q : List Int) : Prop := ∃ (pre : List Int) (a b : Int) (u v : List Int), p = pre ++ a :: u ∧ q = pre ++ b :: v ∧ a < b
theorem plc_path (ms : List Mo) : ∀ (f : Nat) (l : List It) (path : List Int) (x y : Int), ∀ q ∈ plc ms f l path x y, ∃ s ∈ l, ∃ u, q.1.path = path ++ s.id :: u
  | 0, _, _, _, _, q, hq => by cases hq
  | f + 1, l, path, x, y, q, hq => by
    obtain ⟨s, hs, hq⟩ := List.mem_flatMap.1 hq
    refine ⟨s, hs, ?_⟩
    rcases List.mem_cons.1 hq with rfl | hq
    · exact ⟨[], rfl⟩
    · obtain ⟨t, _, u, e⟩ := plc_path ms f _ _ _ _ q hq
      exact ⟨t.id :: u, by rw [e]; simp⟩
theorem plc_lex {ms : List Mo} (h : Low ms) : ∀ (f : Nat) (l : List It) (path : List Int) (x y : Int), (∀ s ∈ l, itOk s = true) → (l.map (·.id)).Pairwise (· < ·) → (expB (plc ms f l path x y)).Pairwise (fun p q => LexLt p.path q.path)
  | 0, _, _, _, _, _, _ => List.Pairwise.nil
  | f + 1, l, path, x, y, hk, hl => by
    induction l with
    | nil => exact List.Pairwise.nil
    | cons s l ih =>
      rw [List.map_cons, List.pairwise_cons] at hl
      have ih := ih (fun t ht => hk t (List.mem_cons_of_mem _ ht)) hl.2
      rw [plc_cons]
      unfold expB at ih ⊢
      rw [List.filter_append, List.map_append]
      refine List.pairwise_append.2 ⟨?_, ih, fun p hp q hq => ?_⟩
      · by_cases h2 : s.kind = 2
        · have hne : ¬ s.kind = 1 := by omega
          have := plc_lex h f (itemsOf ms s.mod) (path ++ [s.id]) (x + s.x) (y + s.y) (fun t ht => (h.rk (r := s.mod) (by omega) t ht).1) (by
            unfold itemsOf
            cases hf : findM ms s.mod with
            | none => exact List.Pairwise.nil
            | some m => exact (itsOk_parts (h.ok m (findM_mem hf).1)).2.1)
          unfold expB at this
          rw [List.filter_cons]
          simpa [hne] using this
        · rw [h.zero (hk s (by simp)) h2, plc_nil]
          have := kind1 (hk s (by simp)) h2
          simp [this]
      · obtain ⟨p', hp', rfl⟩ := List.mem_map.1 hp
        obtain ⟨q', hq', rfl⟩ := List.mem_map.1 hq
        have hp1 : ∃ u, p'.1.path = path ++ s.id :: u := by
          rcases List.mem_cons.1 (List.mem_filter.1 hp').1 with rfl | hp1
          · exact ⟨[], rfl⟩
          · obtain ⟨t, _, u, e⟩ := plc_path ms f _ _ _ _ p' hp1
            exact ⟨t.id :: u, by rw [e]; simp⟩
        obtain ⟨u, e1⟩ := hp1
        obtain ⟨t, ht, v, e2⟩ := plc_path ms (f + 1) l path x y q' (List.mem_filter.1 hq').1
        exact ⟨path, s.id, t.id, u, v, e1, e2, hl.1 t.id (List.mem_map.2 ⟨t, ht, rfl⟩)⟩
/-! where -/
def shP (dx dy : Int) (q : Pl × Int) : Pl × Int := (⟨q.1.path, q.1.x + dx, q.1.y + dy, q.1.text⟩, q.2)
theorem plc_shift (ms : List Mo) (dx dy : Int) : ∀ (f : Nat) (l : List It) (path : List Int) (x y : Int), plc ms f l path (x + dx) (y + dy) = (plc ms f l path x y).map (shP dx dy)
  | 0, _, _, _, _ => rfl
  | f + 1, l, path, x, y => by
    induction l with
    | nil => rfl
    | cons s l ih =>
      rw [plc_cons, plc_cons, ih, List.map_append, List.map_cons, ← plc_shift ms dx dy f]
      have e1 : x + dx + s.x = x + s.x + dx := by omega
      have e2 : y + dy + s.y = y + s.y + dy := by omega
      rw [e1, e2]
      rfl
theorem plc_bd {ms : List Mo} (h : Low ms) (hm : ∀ n, Sml (itemsOf ms n)) : ∀ (f : Nat) (r : Int) (l : List It) (path : List Int) (x y : Int), 0 ≤ r → Rk r l → Sml l → ∀ q ∈ plc ms f l path x y, (x ≤ q.1.x ∧ q.1.x ≤ x + 49 * (r + 1)) ∧ y ≤ q.1.y ∧ q.1.y ≤ y + 49 * (r + 1)
  | 0, _, _, _, _, _, _, _, _, q, hq => by cases hq
  | f + 1, r, l, path, x, y, h0, hk, hs, q, hq => by
    obtain ⟨s, hsl, hq⟩ := List.mem_flatMap.1 hq
    have hb := hs s hsl
    rcases List.mem_cons.1 hq with rfl | hq
    · dsimp only; omega
    · by_cases h2 : s.kind = 2
      · have hk2 := (hk s hsl).2 h2
        have := plc_bd h hm f (s.mod - 1) (itemsOf ms s.mod) _ _ _ (by omega) (h.rk (by omega)) (hm _) q hq
        omega
      · rw [h.zero (hk s hsl).1 h2, plc_nil] at hq
        cases hq
end Go.Proofs.Ytncdombfhcfobaa
