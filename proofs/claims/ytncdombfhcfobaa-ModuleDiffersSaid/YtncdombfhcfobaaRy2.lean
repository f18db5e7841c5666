/- A run of slots one behind the other, put at once. -/
import Derived.Test.YtncdombfhcfobaaRy
namespace Go.Proofs.Ytncdombfhcfobaa
open Go.RowKit
theorem putsL_block (vals : Nat → Value) : ∀ (l : List Oper) (k s : Nat) (A M B : List Value), l.map (·.dst) = (List.range' s l.length).map some → A.length = s → M.length = l.length → putsL vals l k (A ++ (M ++ B)) = A ++ ((List.range' k l.length).map vals ++ B)
  | [], k, s, A, M, B, _, _, hM => by
    have : M = [] := List.eq_nil_of_length_eq_zero hM
    subst this
    rfl
  | o :: l, k, s, A, M, B, hd, hA, hM => by
    match M, hM with
    | m :: M, hM =>
      simp only [List.map_cons, List.length_cons, List.range'_succ, List.cons.injEq] at hd
      show putsL vals l (k + 1) (match o.dst with | some t => (A ++ (m :: M ++ B)).set t (vals k) | none => _) = _
      rw [hd.1]
      dsimp only
      have e : (A ++ (m :: M ++ B)).set s (vals k) = (A ++ [vals k]) ++ (M ++ B) := by
        rw [List.set_append_right _ _ (by omega), hA, Nat.sub_self]
        simp
      rw [e, putsL_block vals l (k + 1) (s + 1) (A ++ [vals k]) M B hd.2 (by simp [hA]) (by simpa using hM)]
      simp [List.range'_succ]
theorem putsL_app (vals : Nat → Value) : ∀ (l1 l2 : List Oper) (k : Nat) (L : List Value), putsL vals (l1 ++ l2) k L = putsL vals l2 (k + l1.length) (putsL vals l1 k L)
  | [], l2, k, L => rfl
  | o :: l1, l2, k, L => by
    show putsL vals (l1 ++ l2) (k + 1) _ = putsL vals l2 (k + (l1.length + 1)) (putsL vals l1 (k + 1) _)
    rw [putsL_app vals l1 l2 (k + 1), show k + (l1.length + 1) = k + 1 + l1.length by omega]
theorem putsL_split (vals : Nat → Value) (n s : Nat) {l : List Oper} {L : List Value} (hd : ((l.take n).map (·.dst) == (List.range' s n).map some) = true) (hn : decide (n ≤ l.length) = true) (hs : decide (s + n ≤ L.length) = true) :
    putsL vals l 0 L = putsL vals (l.drop n) n (L.take s ++ ((List.range' 0 n).map vals ++ L.drop (s + n))) := by
  have hn' := of_decide_eq_true hn
  have hs' := of_decide_eq_true hs
  have hl : (l.take n).length = n := by simp; omega
  have e1 : L = L.take s ++ ((L.drop s).take n ++ L.drop (s + n)) := by
    rw [← List.drop_drop, List.take_append_drop, List.take_append_drop]
  have e2 := putsL_app vals (l.take n) (l.drop n) 0 L
  rw [List.take_append_drop, hl, Nat.zero_add] at e2
  rw [e2]
  congr 1
  conv => lhs; rw [e1]
  rw [putsL_block vals (l.take n) 0 s (L.take s) ((L.drop s).take n) (L.drop (s + n)) (by rw [hl]; exact eq_of_beq hd) (by simp; omega) (by rw [hl]; simp; omega), hl]
end Go.Proofs.Ytncdombfhcfobaa
