/- Contracts: slices.SortFunc at items; byID, sorted. -/
import Derived.Test.YtncdombfhcfobaaGreatM8
import Derived.Test.YtncdombfhcfobaaGreatMLay
import Derived.Test.YtncdombfhcfobaaGreatIMap2
import Derived.Shelf.SlSortCmp.NoneTotal
import Derived.Sort.Grow
import Derived.Sort.Statements
namespace Go.Proofs.YtncdombfhcfobaaGreat
open Go.RowKit
def cmpZ (x y : Int) : Int := if x < y then -1 else if x = y then 0 else 1
theorem c_isNaN (n : Int) (w : World) : Calls Tryz.prog 98 #[.int .i64 n] w fun e w' => e = .returned (.bool false) ∧ w = w' := by
  go_enter Tryz.func98, Tryz.ntmps98
  go_wp2
  go_ret
  exact ⟨by simp, rfl⟩
theorem c_compare (x y : Int) (w : World) : Calls Tryz.prog 85 #[.int .i64 x, .int .i64 y] w fun e w' => e = .returned (.int .i64 (cmpZ x y)) ∧ w = w' := by
  go_enter Tryz.func85, Tryz.ntmps85
  go_wp2_with (go_at_call 98; refine (c_isNaN _ _).mono ?_; rintro e w' ⟨rfl, rfl⟩)
  all_goals go_ret
  all_goals refine ⟨ret_int ?_, rfl⟩
  all_goals simp only [cmpZ]
  all_goals (repeat' split)
  all_goals first | rfl | omega
def cmpIt (s t : It) : Int := cmpZ s.id t.id
theorem c_cmpItem (s t : It) (w : World) :
    Calls Tryz.prog 84 #[itV s, itV t] w fun e w' => e = .returned (.int .i64 (cmpIt s t)) ∧ ∃ q os', w' = Go.Sort.grow (w.drewN q) os' := by
  unfold itV
  go_enter Tryz.func84, Tryz.ntmps84
  go_wp2_with (go_at_call 85; refine (c_compare _ _ _).mono ?_; rintro e w' ⟨rfl, rfl⟩)
  go_ret
  refine ⟨rfl, 0, #[.cells #[.int .i64 s.id, .int .i64 s.kind, .int .i64 s.x, .int .i64 s.y, .string s.text, .int .i64 s.mod] 27, .cells #[.int .i64 t.id, .int .i64 t.kind, .int .i64 t.x, .int .i64 t.y, .string t.text, .int .i64 t.mod] 27], ?_⟩
  simp only [World.alloc, Go.Sort.grow, World.drewN]
  congr 1
theorem cmpIt_neg (s t : It) : cmpIt s t < 0 ↔ s.id < t.id := by
  simp only [cmpIt, cmpZ]
  (repeat' split) <;> omega
theorem swoI : Go.Sort.SWO (fun s t : It => decide (cmpIt s t < 0)) where
  irrefl x := by simp only [decide_eq_false_iff_not, cmpIt_neg]; omega
  trans x y z h1 h2 := by simp only [decide_eq_true_eq, cmpIt_neg] at *; omega
  ntrans x y z h1 h2 := by simp only [decide_eq_false_iff_not, cmpIt_neg] at *; omega
theorem flatKI_eq (d : Array It) : Go.Sort.flatK cI 6 d = (d.toList.flatMap cI).toArray := by
  have hl : (d.toList.flatMap cI).length = d.size * 6 := by rw [flat_len cI 6 (fun _ => rfl)]; simp
  refine Go.Sort.ext_get! (by simp [hl]) fun t ht => ?_
  have ht' : t < d.size * 6 := by simpa using ht
  rw [Go.Sort.get_flatK _ _ _ t ht']
  have h1 : t / 6 < d.toList.length := by simp; omega
  have hg := flat_get cI 6 (fun _ => rfl) d.toList (t / 6) h1 (t % 6) (Nat.mod_lt _ (by omega))
  have e : t / 6 * 6 + t % 6 = t := by omega
  rw [e] at hg
  have h2 : t / 6 < d.size := by omega
  have h3 : t % 6 < (cI d[t / 6]).length := by simp only [cI, List.length_cons, List.length_nil]; omega
  rw [getElem!_pos d (t / 6) h2, getElem!_pos (cI d[t / 6]) (t % 6) h3, getElem!_pos _ t (by simp [hl]; omega)]
  have h4 : t < (d.toList.flatMap cI).length := by omega
  rw [List.getElem?_eq_getElem h4, List.getElem?_eq_getElem (by simp only [cI, List.length_cons, List.length_nil]; omega)] at hg
  injection hg with hg
  simp only [List.getElem_toArray]
  rw [hg]
  simp
theorem sortedI_pairwise {d : Array It} (h : Go.Sort.SortedIn (ltOf cmpIt) 0 d.size d) : d.toList.Pairwise (fun x y => ¬ y.id < x.id) := by
  rw [List.pairwise_iff_getElem]
  intro i j hi hj hij
  have := h i j (Nat.zero_le _) hij (by simpa using hj)
  simp only [Array.length_toList] at hi hj
  rw [getElem!_pos d j hj, getElem!_pos d i hi] at this
  unfold ltOf at this
  simp only [Array.getElem_toList]
  rw [decide_eq_false_iff_not, cmpIt_neg] at this
  exact this
/-- sorted by their numbers, of the items l -/
def SortOf (l s : List It) : Prop := s.Perm l ∧ s.Pairwise (fun x y => ¬ y.id < x.id)
theorem c_sortItem (l : List It) (base g cap : Nat) (w : World) (hl : l.length ≤ 1000000) (h : w.ownsRow base 27 6 (.slice (some ⟨g, 0, none⟩) l.length cap) l.length (l.flatMap cI)) :
    Calls Tryz.prog 83 #[.slice (some ⟨g, 0, none⟩) l.length cap, .func (.func 84) #[] #[]] w fun e w' => e = .returned (.tuple #[]) ∧ ∃ s, SortOf l s ∧ w'.ownsRow base 27 6 (.slice (some ⟨g, 0, none⟩) l.length cap) l.length (s.flatMap cI) ∧ Below base w w' := by
  obtain ⟨hlen, hn | ⟨g', cap', cur, hv, hbase, hb, hn, hc, hsz, htk⟩⟩ := h
  · exact absurd hn.1 (by simp)
  simp only [Value.slice.injEq, Option.some.injEq, Addr.mk.injEq, and_true, true_and] at hv
  obtain ⟨rfl, rfl⟩ := hv
  have hblk : g < w.heap.size := (Array.getElem?_eq_some_iff.1 hb).1
  have hH : Go.Sort.HoldsK cI 6 w g 0 l.toArray := by
    intro j hj
    rw [flatKI_eq] at hj ⊢
    simp only [List.size_toArray] at hj
    have hget : cur.toList[j]? = (l.flatMap cI)[j]? := by
      rw [← htk, List.getElem?_take]
      rw [if_pos (by omega)]
    refine ⟨?_, ?_⟩
    · rw [Nat.zero_add, cell_of_row w g j _ 27 (0, 0) hb]
      have hj' : j < (l.flatMap cI).length := by simpa using hj
      rw [← Array.getElem?_toList, hget, List.getElem?_eq_getElem hj', getElem!_pos _ j (by simpa using hj')]
      simp
    · rw [Nat.zero_add]; exact frozen_of_row w g j _ 27 hb
  have hcon := AnyQ.slices_SortFunc Tryz.sortIt 6 (by intro w; kernel_rfl) (by intro w; kernel_rfl) cI (fun _ => rfl) (fun x v hv => by simp [cI] at hv; rcases hv with rfl | rfl | rfl | rfl | rfl | rfl <;> rfl) cmpIt swoI 84 #[] g 0 cap l.toArray w
    (enters_of Tryz.func84 (by kernel_rfl) rfl) (fun m os dk _ x y => c_cmpItem x y _) hH hblk (by simp; omega)
  refine hcon.mono ?_
  rintro e w' ⟨rfl, d', n, os, hp, hs, rfl⟩
  simp only [List.size_toArray] at hp hs
  have hds : d'.size = l.length := by simpa using hp.1
  have hperm : d'.toList.Perm l := by
    have h3 := hp.2.2
    have e1 : d'.extract 0 l.length = d' := by rw [← hds]; simp
    have e2 : l.toArray.extract 0 l.length = l.toArray := by simp
    rw [e1, e2] at h3
    exact h3
  rw [← hds] at hs
  have hF : Go.Sort.flatK cI 6 d' = (d'.toList.flatMap cI).toArray := by rw [flatKI_eq]
  have hFl : (d'.toList.flatMap cI).length = l.length * 6 := by rw [flat_len cI 6 (fun _ => rfl)]; simp [hds]
  have hheap : ∀ k, k < w.heap.size → (sortWorldK cI 6 w g 0 n d' os).heap[k]? = (w.heap.modify g (Go.Sort.onCells (Go.Sort.putCells id 0 (d'.toList.flatMap cI).toArray)))[k]? := by
    intro k hk
    unfold sortWorldK Go.Sort.putRowK
    rw [Go.Sort.heap_grow_old _ _ (by simpa using hk), hF]
    rfl
  refine ⟨rfl, d'.toList, ⟨hperm, sortedI_pairwise hs⟩, ⟨hFl, .inr ⟨g, cap, Go.Sort.putCells id 0 (d'.toList.flatMap cI).toArray cur, rfl, hbase, ?_, hn, hc, ?_, ?_⟩⟩, ⟨rfl, rfl, rfl, ?_, fun k hk => ?_⟩⟩
  · rw [hheap g hblk, Array.getElem?_modify, if_pos rfl, hb]; rfl
  · simp [Go.Sort.putCells, hsz]
  · apply List.ext_getElem?
    intro j
    rw [List.getElem?_take]
    by_cases hj : j < l.length * 6
    · rw [if_pos hj]
      have hjc : j < cur.size := by rw [hsz]; omega
      simp only [Go.Sort.putCells, Array.getElem?_toList, Array.getElem?_mapIdx, Array.getElem?_eq_getElem hjc, Option.map_some, List.size_toArray, Nat.zero_le, true_and, Nat.zero_add, Nat.sub_zero]
      rw [if_pos (by rw [hFl]; exact hj), List.getElem?_eq_getElem (by rw [hFl]; exact hj), getElem!_pos _ j (by simp [hFl]; omega)]
      simp
    · rw [if_neg hj, List.getElem?_eq_none (by omega)]
  · unfold sortWorldK Go.Sort.putRowK
    simp
  · rw [hheap k (by omega), Array.getElem?_modify, if_neg (by omega)]
theorem c_sortNone (p : Option Addr) (cap : Nat) (fv : Value) (w : World) : Calls Tryz.prog 83 #[.slice p 0 cap, fv] w fun e w' => e = .returned (.tuple #[]) ∧ w' = w := AnyF.slices_SortFunc_none Tryz.sortIt p cap fv w
end Go.Proofs.YtncdombfhcfobaaGreat
