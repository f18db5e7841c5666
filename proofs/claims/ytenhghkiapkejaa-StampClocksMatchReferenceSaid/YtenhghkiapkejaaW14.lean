/- Contracts of slices.Values at stamps, and of the function that it hands back. -/
import Derived.Test.YtenhghkiapkejaaW10
namespace Go.Proofs.Ytenhghkiapkejaa
open Go.RowKit Go.Shelf
attribute [local go_sem] Oper.semAt_some
def encS (x : I3) : Array Value := #[.agg #[.int .i64 x.1, .int .i64 x.2.1, .int .i64 x.2.2]]
set_option maxRecDepth 100000 in
set_option maxHeartbeats 1000000 in
theorem f55 (n lp Bn B : Nat) (hn1 : 1 ≤ n) (A : Option Addr) (l : List I3) (c : Nat) (hn : l.length ≤ c) (hc : c ≤ 9223372036854775807) (J Jx : List I3 → World → Prop) (W : World)
    (hJ : ∀ pre W o, J pre W → J pre (W.alloc o))
    (hY : ∀ pre x W1, J pre W1 → pre.length < l.length → YieldAt Fence.wide (n - 1) Try.prog lp (encS x) W1 fun e W' =>
      (e = .returned (.bool true) ∧ J (pre ++ [x]) W' ∧ Below B W1 W') ∨ (e = .returned (.bool false) ∧ Jx (pre ++ [x]) W'))
    (hB : B ≤ W.heap.size) (hbx : W.cell? ⟨Bn, 0, none⟩ = some (.slice A l.length c)) (hr : SlR W B 3 A l.length (l.flatMap c3)) (h0 : J [] W) :
    CallsIn Fence.wide n Try.prog 55 #[.func (.yield lp) #[] #[], .pointer (some ⟨Bn, 0, none⟩)] W fun e W' => (∃ v, e = .returned v) ∧
      ((∃ ys : List I3, ys = l ∧ J ys W') ∨ (∃ pre, Jx pre W')) := by
  refine callsIn_of_wp Try.func55 rfl trivial ?_ rfl
  simp only [Try.ntmps55, List.size_toArray, List.length_cons, List.length_nil, Nat.reduceAdd, Nat.reduceSub, Array.replicate_succ, Array.replicate_zero, List.push_toArray, List.append_toArray, List.nil_append, List.cons_append]
  gi_wp2
  gi_loopw [7] (fun i wr => ∃ (k : Nat), k ≤ l.length ∧ i = .int .i64 k ∧ J (l.take k) wr ∧ Below B W wr) (fun i _ => l.length - (intOf i).toNat)
  case atStart => exact ⟨0, Nat.zero_le _, rfl, h0, Below.refl _ _⟩
  case round =>
    obtain ⟨k, hk, rfl, hJs, hb⟩ := hrel
    by_cases hlt : k < l.length
    · obtain ⟨b, off, rfl, hbb, hx0, hx1, hx2⟩ := hr.at3 hb hlt
      have hsn := List.take_succ_eq_append_getElem hlt
      have H := hide hsn
      clear hsn hr
      have hsz := hb.size
      obtain ⟨fn, tmps, assign, body, hy, hR⟩ := hY (l.take k) l[k] (wr.alloc (.cells #[.int .i64 l[k].1, .int .i64 l[k].2.1, .int .i64 l[k].2.2] 24)) (hJ _ _ _ hJs) (by rw [List.length_take]; omega)
      simp only [encS] at hy
      generalize l[k] = m at *
      obtain ⟨m0, m1, m2⟩ := m
      simp only [] at hx0 hx1 hx2 hy hR
      gi_wp2
      refine hR.mono ?_
      clear hR hy
      rintro e W3 (⟨rfl, hJ3, hk3⟩ | ⟨rfl, hJx3⟩)
      · gi_wp2
        go_roundw
        case rel => exact ⟨k + 1, by omega, by go_num, by rw [H.out]; exact hJ3, (hb.alloc (by omega) _).trans hk3⟩
        case measure => simp [intOf]; omega
      · gi_wp2
        refine bodyPost_ret (results_none rfl _ _ _) rfl ?_
        exact ⟨⟨_, rfl⟩, .inr ⟨_, hJx3⟩⟩
    · obtain rfl : k = l.length := by omega
      rw [List.take_length] at hJs
      clear hr
      gi_wp2
      go_end0
      exact ⟨⟨_, rfl⟩, .inl ⟨_, rfl, hJs⟩⟩
theorem f38 (A : Option Addr) (n c : Nat) (w : World) :
    Calls Try.prog 38 #[.slice A n c] w fun e w' => e = .returned (.func (.func 55) #[] #[.pointer (some ⟨w.heap.size, 0, none⟩)]) ∧ w.alloc (.cells #[.slice A n c] 26) = w' := by
  go_enter Try.func38, Try.ntmps38
  go_wp2
  go_ret
  exact ⟨rfl, rfl⟩
end Go.Proofs.Ytenhghkiapkejaa
