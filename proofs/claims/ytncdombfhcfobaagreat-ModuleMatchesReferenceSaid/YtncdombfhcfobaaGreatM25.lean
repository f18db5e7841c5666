/- Contract: slices.Sort at a row of ints. -/
import Derived.Test.YtncdombfhcfobaaGreatMC
import Derived.Test.YtncdombfhcfobaaGreatMLay2
namespace Go.Proofs.YtncdombfhcfobaaGreat
open Go.RowKit
/-- sorted ints -/
def sortN (l : List Int) : List Int := l.mergeSort fun x y => decide (x ≤ y)
theorem flatN_map (l : List Int) : l.flatMap cN = l.map (Value.int .i64) := by
  induction l with
  | nil => rfl
  | cons a l ih => simp [cN, ih]
theorem c_sortInts (l : List Int) (base g cap : Nat) (w : World) (hl : l.length ≤ 1000000) (h : w.ownsRow base 3 1 (.slice (some ⟨g, 0, none⟩) l.length cap) l.length (l.flatMap cN)) :
    Calls Tryz.prog 67 #[.slice (some ⟨g, 0, none⟩) l.length cap] w fun e w' => e = .returned (.tuple #[]) ∧ w'.ownsRow base 3 1 (.slice (some ⟨g, 0, none⟩) l.length cap) l.length ((sortN l).flatMap cN) ∧ w.grownBy w' (some g) := by
  obtain ⟨hlen, hn | ⟨g', cap', cur, hv, hbase, hb, hn, hc, hsz, htk⟩⟩ := h
  · exact absurd hn.1 (by simp)
  simp only [Value.slice.injEq, Option.some.injEq, Addr.mk.injEq, and_true, true_and] at hv
  obtain ⟨rfl, rfl⟩ := hv
  have hblk : g < w.heap.size := (Array.getElem?_eq_some_iff.1 hb).1
  have hfl : (l.flatMap cN).length = l.length := by rw [flatN_map]; simp
  have hH : Go.Sort.Holds (Value.int .i64) w g 0 l.toArray := by
    intro j hj
    simp only [List.size_toArray] at hj
    have hget : cur.toList[j]? = (l.flatMap cN)[j]? := by
      rw [← htk, List.getElem?_take, if_pos (by omega)]
    refine ⟨?_, ?_⟩
    · rw [Nat.zero_add, cell_of_row w g j _ 3 (0, 0) hb, ← Array.getElem?_toList, hget, flatN_map, List.getElem?_map, List.getElem?_eq_getElem hj, getElem!_pos _ j (by simpa using hj)]
      simp
    · rw [Nat.zero_add]; exact frozen_of_row w g j _ 3 hb
  refine (Any.slices_Sort_int Tryz.sortInts g 0 cap l w hH hblk (by omega)).mono ?_
  rintro e w' ⟨rfl, n, os, rfl⟩
  have hsl : (sortN l).length = l.length := by unfold sortN; simp
  have hFl : ((sortN l).flatMap cN).length = l.length * 1 := by rw [flatN_map]; simp [hsl]
  have hheap : ∀ k, k < w.heap.size → (Go.Sort.grow (Go.Sort.putRow (Value.int .i64) (Go.Sort.ahead w n) g 0 (sortN l).toArray) os).heap[k]? = (w.heap.modify g (Go.Sort.onCells (Go.Sort.putCells (Value.int .i64) 0 (sortN l).toArray)))[k]? := by
    intro k hk
    unfold Go.Sort.putRow Go.Sort.mapBlock
    rw [Go.Sort.heap_grow_old _ _ (by simpa [Go.Sort.ahead] using hk)]
    rfl
  refine ⟨rfl, ⟨hFl, .inr ⟨g, cap, Go.Sort.putCells (Value.int .i64) 0 (sortN l).toArray cur, rfl, hbase, ?_, hn, hc, ?_, ?_⟩⟩, ⟨rfl, rfl, rfl, ?_, fun k hk hkg => ?_⟩⟩
  · exact (hheap g hblk).trans (by rw [Array.getElem?_modify, if_pos rfl, hb]; rfl)
  · simp [Go.Sort.putCells, hsz]
  · apply List.ext_getElem?
    intro j
    rw [List.getElem?_take]
    by_cases hj : j < l.length * 1
    · rw [if_pos hj]
      have hjc : j < cur.size := by rw [hsz]; omega
      have hjs : j < (sortN l).length := by omega
      simp only [Go.Sort.putCells, Array.getElem?_toList, Array.getElem?_mapIdx, Array.getElem?_eq_getElem hjc, Option.map_some, List.size_toArray, Nat.zero_le, true_and, Nat.zero_add, Nat.sub_zero]
      rw [if_pos hjs, flatN_map, List.getElem?_map, List.getElem?_eq_getElem hjs, getElem!_pos _ j (by simpa using hjs)]
      simp
    · rw [if_neg hj, List.getElem?_eq_none (by omega)]
  · show w.heap.size ≤ (Go.Sort.grow _ os).heap.size
    simp [Go.Sort.grow, Go.Sort.putRow, Go.Sort.mapBlock, Go.Sort.ahead]
  · exact (hheap k (by omega)).trans (by rw [Array.getElem?_modify, if_neg (fun e => hkg (by rw [e]))])
theorem c_sortIntsNone (p : Option Addr) (cap : Nat) (w : World) : Calls Tryz.prog 67 #[.slice p 0 cap] w fun e w' => e = .returned (.tuple #[]) ∧ w' = w := Any.slices_Sort_int_none Tryz.sortInts p cap w
theorem sortN_len (l : List Int) : (sortN l).length = l.length := by unfold sortN; simp
theorem c_sortAny (v : Value) (l : List Int) (base : Nat) (w : World) (hl : l.length ≤ 1000000) (h : w.ownsRow base 3 1 v l.length (l.flatMap cN)) :
    Calls Tryz.prog 67 #[v] w fun e w' => e = .returned (.tuple #[]) ∧ w'.ownsRow base 3 1 v (sortN l).length ((sortN l).flatMap cN) ∧ w.grownBy w' v.ownBlock := by
  rw [sortN_len]
  have h' := h
  rcases h.2 with ⟨rfl, h0⟩ | ⟨g, c', cur, rfl, _, _, _⟩
  · have hl0 : l.length = 0 := by first | exact h0 | exact h0.1 | exact h0.2
    have hnil : l = [] := List.eq_nil_of_length_eq_zero hl0
    subst hnil
    refine (c_sortIntsNone none 0 w).mono ?_
    rintro e w' ⟨rfl, rfl⟩
    exact ⟨rfl, by rw [show sortN [] = [] from by simp [sortN]]; exact h', ⟨rfl, rfl, rfl, Nat.le_refl _, fun _ _ _ => rfl⟩⟩
  · exact c_sortInts l base g c' w hl h'
end Go.Proofs.YtncdombfhcfobaaGreat
