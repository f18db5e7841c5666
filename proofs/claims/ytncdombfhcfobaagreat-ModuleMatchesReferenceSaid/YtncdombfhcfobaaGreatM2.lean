/- Contracts: is an item proper; slices.IndexFunc and slices.ContainsFunc at items; slices.IndexFunc at modules. -/
import Derived.Test.YtncdombfhcfobaaGreatM1
import Derived.Laws.Closers25b
import Derived.Shelf.Abstract
namespace Go.Proofs.YtncdombfhcfobaaGreat
open Go.RowKit Go.Shelf
theorem c_itemOk (s : It) (w : World) : Calls Tryz.prog 75 #[itV s] w fun e w' => e = .returned (.bool (itOk s)) ∧ Below w.heap.size w w' := by
  obtain ⟨id, kind, x, y, text, mod⟩ := s
  unfold itV
  by_cases h1 : kind = 1
  · subst h1
    go_enter Tryz.func75, Tryz.ntmps75
    go_wp2_with (first | (go_at_call 52; refine (c_isIn _ _ _ _).mono ?_; rintro e w' ⟨rfl, rfl⟩) | (go_at_call 53; refine (c_isPlace _ _ _).mono ?_; rintro e w' ⟨rfl, hb⟩))
    all_goals go_ret
    all_goals refine ⟨ret_bool ?_, bthen (balloc (Below.refl _ _) _) hb⟩
    all_goals (simp_all [itOk, plB])
    all_goals omega
  · by_cases h2 : kind = 2
    · subst h2
      go_enter Tryz.func75, Tryz.ntmps75
      go_wp2_with (first | (go_at_call 52; refine (c_isIn _ _ _ _).mono ?_; rintro e w' ⟨rfl, rfl⟩) | (go_at_call 53; refine (c_isPlace _ _ _).mono ?_; rintro e w' ⟨rfl, hb⟩))
      all_goals go_ret
      all_goals refine ⟨ret_bool ?_, bthen (balloc (Below.refl _ _) _) hb⟩
      all_goals (simp_all [itOk, plB, toList_nil_iff_emptyBytes])
    · go_enter Tryz.func75, Tryz.ntmps75
      go_wp2_with (first | (go_at_call 52; refine (c_isIn _ _ _ _).mono ?_; rintro e w' ⟨rfl, rfl⟩) | (go_at_call 53; refine (c_isPlace _ _ _).mono ?_; rintro e w' ⟨rfl, hb⟩))
      all_goals go_ret
      all_goals refine ⟨ret_bool ?_, bthen (balloc (Below.refl _ _) _) hb⟩
      all_goals (simp_all [itOk, plB])
/-- the index of the first element that meets p, from k on -/
def idxF {α : Type} (p : α → Bool) : List α → Nat → Int
  | [], _ => -1
  | x :: l, k => if p x then k else idxF p l (k + 1)
theorem idxF_cases {α : Type} (p : α → Bool) : ∀ (l : List α) (k : Nat), (idxF p l k = -1 ∧ l.any p = false ∧ l.find? p = none) ∨ (∃ (j : Nat) (h : j < l.length), idxF p l k = (k + j : Nat) ∧ l.any p = true ∧ l.find? p = some l[j] ∧ p l[j] = true)
  | [], k => .inl ⟨rfl, rfl, rfl⟩
  | x :: l, k => by
    by_cases hx : p x = true
    · exact .inr ⟨0, by simp, by simp [idxF, hx], by simp [hx], by simp [hx], by simpa using hx⟩
    · have hx' : p x = false := by simpa using hx
      rcases idxF_cases p l (k + 1) with ⟨h1, h2, h3⟩ | ⟨j, hj, h1, h2, h3, h4⟩
      · exact .inl ⟨by simp [idxF, hx', h1], by simp [hx', h2], by simp [hx', h3]⟩
      · exact .inr ⟨j + 1, by simpa using hj, by simp only [idxF, hx', Bool.false_eq_true, if_false, h1]; congr 1; omega, by simp [hx', h2], by simp [hx', h3], by simpa using h4⟩
/-- a predicate on items that makes memory of its own alone -/
def PI (P : Program) (g : Nat) (lb : Array Value) (p : It → Bool) (w : World) : Prop :=
  ∀ (W : World) (s : It), Below w.heap.size w W → Calls P g (#[itV s] ++ lb) W fun e w' => e = .returned (.bool (p s)) ∧ Below w.heap.size w w'
theorem c_idxItem (p : It → Bool) (g : Nat) (lb : Array Value) (eg : ∀ args w, (callFunc g args).run Tryz.prog w = .ok (.enter g args) w) (A : Option Addr) (n c : Nat) (l : List It) (w : World) (hn : n ≤ 9223372036854775807)
    (hp : PI Tryz.prog g lb p w) (hr : SlR w w.heap.size 6 A n (l.flatMap cI)) :
    Calls Tryz.prog 73 #[.slice A n c, .func (.func g) #[] lb] w fun e w' => e = .returned (.int .i64 (idxF p l 0)) ∧ Below w.heap.size w w' := by
  have hl := hr.lenI
  have HL := hide hl
  go_enter Tryz.func73, Tryz.ntmps73
  go_wp2
  go_loopw [5, 8] (fun s i wr => ∃ k : Nat, k ≤ n ∧ i = .int .i64 k ∧ idxF p (l.drop k) k = idxF p l 0 ∧ Below w.heap.size w wr) (fun _ i _ => n - (intOf i).toNat)
  case atStart => exact ⟨0, Nat.zero_le _, rfl, rfl, Below.refl _ _⟩
  case round =>
    obtain ⟨k, hk, rfl, ho, hb⟩ := hrel
    by_cases hlt : k < n
    · have hkl : k < l.length := by omega
      obtain ⟨b, off, rfl, hbb, hx0, hx1, hx2, hx3, hx4, hx5⟩ := hr.atI hb hkl
      have hd : l.drop k = l[k] :: l.drop (k + 1) := List.drop_eq_getElem_cons hkl
      rw [hd] at ho
      have HO := hide ho
      have hcall := hp wr l[k] hb
      clear ho hd hr hp hl
      generalize l[k] = s at *
      have hlt' : (k : Int) < (n : Int) := by omega
      cases hq : p s with
      | true =>
        rw [hq] at hcall
        have HQ := hide hq
        clear hq
        unfold itV at hcall
        go_wp2_with (go_at_fn g; refine hcall.mono ?_; rintro e w' ⟨rfl, hb'⟩)
        go_ret
        have h := HO.out
        exact ⟨ret_int (by rw [← h, idxF, if_pos HQ.out]), hb'⟩
      | false =>
        rw [hq] at hcall
        have HQ := hide hq
        clear hq
        unfold itV at hcall
        go_wp2_with (go_at_fn g; refine hcall.mono ?_; rintro e w' ⟨rfl, hb'⟩)
        go_roundw
        case rel =>
          have h := HO.out
          exact ⟨k + 1, by omega, by go_num, by rw [← h, idxF, if_neg (by rw [HQ.out]; decide)], hb'⟩
        case measure => simp [intOf]; omega
    · have HO := hide ho
      clear ho hr hp hl
      go_wp2
      go_ret
      have h := HO.out
      rw [List.drop_eq_nil_of_le (by have := HL.out; omega)] at h
      exact ⟨ret_int h, hb⟩
theorem c_contItem (p : It → Bool) (g : Nat) (lb : Array Value) (eg : ∀ args w, (callFunc g args).run Tryz.prog w = .ok (.enter g args) w) (A : Option Addr) (n c : Nat) (l : List It) (w : World) (hn : n ≤ 9223372036854775807)
    (hp : PI Tryz.prog g lb p w) (hr : SlR w w.heap.size 6 A n (l.flatMap cI)) :
    Calls Tryz.prog 49 #[.slice A n c, .func (.func g) #[] lb] w fun e w' => e = .returned (.bool (l.any p)) ∧ Below w.heap.size w w' := by
  have hcall := c_idxItem p g lb eg A n c l w hn hp hr
  have hc := idxF_cases p l 0
  clear hp hr eg
  rcases hc with ⟨h1, h2, _⟩ | ⟨j, hj, h1, h2, h3, h4⟩
  · rw [h1] at hcall
    rw [h2]
    clear h1 h2
    go_enter Tryz.func49, Tryz.ntmps49
    go_wp2_with (go_at_call 73; refine hcall.mono ?_; rintro e w' ⟨rfl, hb⟩)
    go_ret
    exact ⟨rfl, hb⟩
  · rw [h1] at hcall
    rw [h2]
    clear h1 h2 h3 h4 hj
    generalize 0 + j = q at *
    go_enter Tryz.func49, Tryz.ntmps49
    go_wp2_with (go_at_call 73; refine hcall.mono ?_; rintro e w' ⟨rfl, hb⟩)
    go_ret
    exact ⟨ret_bool (by simp), hb⟩
end Go.Proofs.YtncdombfhcfobaaGreat
