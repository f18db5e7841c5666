/- Contract of slices.SortFunc at stamps, by the shelf's contract. -/
import Derived.Test.YtenhghkiapkejaaLay
import Derived.Test.YtenhghkiapkejaaSortP
namespace Go.Proofs.Ytenhghkiapkejaa
open Go.RowKit
theorem flatK_eq (d : Array I3) : Go.Sort.flatK c3 3 d = (d.toList.flatMap c3).toArray := by
  have hl : (d.toList.flatMap c3).length = d.size * 3 := by rw [flat_len c3 3 (fun _ => rfl)]; simp
  refine Go.Sort.ext_get! (by simp [hl]) fun t ht => ?_
  have ht' : t < d.size * 3 := by simpa using ht
  rw [Go.Sort.get_flatK _ _ _ t ht']
  have h1 : t / 3 < d.toList.length := by simp; omega
  have hg := flat_get c3 3 (fun _ => rfl) d.toList (t / 3) h1 (t % 3) (Nat.mod_lt _ (by omega))
  have e : t / 3 * 3 + t % 3 = t := by omega
  rw [e] at hg
  have h2 : t / 3 < d.size := by omega
  have h3 : t % 3 < (c3 d[t / 3]).length := by simp only [c3, List.length_cons, List.length_nil]; omega
  rw [getElem!_pos d (t / 3) h2, getElem!_pos (c3 d[t / 3]) (t % 3) h3, getElem!_pos _ t (by simp [hl]; omega)]
  have h4 : t < (d.toList.flatMap c3).length := by omega
  rw [List.getElem?_eq_getElem h4, List.getElem?_eq_getElem (by simp only [c3, List.length_cons, List.length_nil]; omega)] at hg
  injection hg with hg
  simp only [List.getElem_toArray]
  rw [hg]
  simp
theorem sortedIn_pairwise {d : Array I3} (h : Go.Sort.SortedIn (ltOf cmpS) 0 d.size d) : d.toList.Pairwise (fun x y => leS x y = true) := by
  rw [List.pairwise_iff_getElem]
  intro i j hi hj hij
  have := h i j (Nat.zero_le _) hij (by simpa using hj)
  simp only [Array.length_toList] at hi hj
  rw [getElem!_pos d j hj, getElem!_pos d i hi] at this
  unfold ltOf at this
  unfold leS
  simp only [Array.getElem_toList]
  rw [decide_eq_false_iff_not] at this
  rw [decide_eq_true_eq]
  exact this
theorem f54 (l : List I3) (base g cap : Nat) (w : World) (hl : l.length ≤ 100) (h : w.ownsRow base 24 3 (.slice (some ⟨g, 0, none⟩) l.length cap) l.length (l.flatMap c3)) :
    Calls Try.prog 54 #[.slice (some ⟨g, 0, none⟩) l.length cap, .func (.func 39) #[] #[]] w fun e w' => e = .returned (.tuple #[]) ∧ w'.ownsRow base 24 3 (.slice (some ⟨g, 0, none⟩) l.length cap) l.length ((sortS l).flatMap c3) ∧ Below base w w' := by
  obtain ⟨hlen, hn | ⟨g', cap', cur, hv, hbase, hb, hn, hc, hsz, htk⟩⟩ := h
  · exact absurd hn.1 (by simp)
  simp only [Value.slice.injEq, Option.some.injEq, Addr.mk.injEq, and_true, true_and] at hv
  obtain ⟨rfl, rfl⟩ := hv
  have hblk : g < w.heap.size := (Array.getElem?_eq_some_iff.1 hb).1
  have hH : Go.Sort.HoldsK c3 3 w g 0 l.toArray := by
    intro j hj
    rw [flatK_eq] at hj ⊢
    simp only [List.size_toArray] at hj
    have hget : cur.toList[j]? = (l.flatMap c3)[j]? := by
      rw [← htk, List.getElem?_take]
      rw [if_pos (by omega)]
    refine ⟨?_, ?_⟩
    · rw [Nat.zero_add, cell_of_row w g j _ 24 (0, 0) hb]
      have hj' : j < (l.flatMap c3).length := by simpa using hj
      rw [← Array.getElem?_toList, hget, List.getElem?_eq_getElem hj', getElem!_pos _ j (by simpa using hj')]
      simp
    · rw [Nat.zero_add]; exact frozen_of_row w g j _ 24 hb
  have hcon := AnyQ.slices_SortFunc Try.sortSt 3 (by intro w; kernel_rfl) (by intro w; kernel_rfl) c3 (fun _ => rfl) (fun x v hv => by simp [c3] at hv; rcases hv with rfl | rfl | rfl <;> rfl) cmpS swo 39 #[] g 0 cap l.toArray w
    (enters_of Try.func39 (by kernel_rfl) rfl) (fun m os dk _ x y => f39s x y _) hH hblk (by simp; omega)
  refine hcon.mono ?_
  rintro e w' ⟨rfl, d', n, os, hp, hs, rfl⟩
  simp only [List.size_toArray] at hp hs
  have hds : d'.size = l.length := by simpa using hp.1
  have hperm : d'.toList.Perm l := by
    have h3 := hp.2.2
    have e1 : d'.extract 0 l.length = d' := by rw [← hds]; simp
    have e2 : l.toArray.extract 0 l.length = l.toArray := by simp
    rw [e1, e2] at h3
    exact h3
  rw [← hds] at hs
  have hd : d'.toList = sortS l := sortS_uniq hperm (sortedIn_pairwise hs)
  have hF : Go.Sort.flatK c3 3 d' = ((sortS l).flatMap c3).toArray := by rw [flatK_eq, hd]
  have hFl : ((sortS l).flatMap c3).length = l.length * 3 := by rw [flat_len c3 3 (fun _ => rfl), sortS_len]
  have hheap : ∀ k, k < w.heap.size → (sortWorldK c3 3 w g 0 n d' os).heap[k]? = (w.heap.modify g (Go.Sort.onCells (Go.Sort.putCells id 0 ((sortS l).flatMap c3).toArray)))[k]? := by
    intro k hk
    unfold sortWorldK Go.Sort.putRowK
    rw [Go.Sort.heap_grow_old _ _ (by simpa using hk), hF]
    rfl
  refine ⟨rfl, ⟨hFl, .inr ⟨g, cap, Go.Sort.putCells id 0 ((sortS l).flatMap c3).toArray cur, rfl, hbase, ?_, hn, hc, ?_, ?_⟩⟩, ⟨rfl, rfl, rfl, ?_, fun k hk => ?_⟩⟩
  · rw [hheap g hblk, Array.getElem?_modify, if_pos rfl, hb]; rfl
  · simp [Go.Sort.putCells, hsz]
  · apply List.ext_getElem?
    intro j
    rw [List.getElem?_take]
    by_cases hj : j < l.length * 3
    · rw [if_pos hj]
      have hjc : j < cur.size := by rw [hsz]; omega
      simp only [Go.Sort.putCells, Array.getElem?_toList, Array.getElem?_mapIdx, Array.getElem?_eq_getElem hjc, Option.map_some, List.size_toArray, Nat.zero_le, true_and, Nat.zero_add, Nat.sub_zero]
      rw [if_pos (by rw [hFl]; exact hj), List.getElem?_eq_getElem (by rw [hFl]; exact hj), getElem!_pos _ j (by simp [hFl]; omega)]
      simp
    · rw [if_neg hj, List.getElem?_eq_none (by omega)]
  · unfold sortWorldK Go.Sort.putRowK
    simp
  · rw [hheap k (by omega), Array.getElem?_modify, if_neg (by omega)]
end Go.Proofs.Ytenhghkiapkejaa
