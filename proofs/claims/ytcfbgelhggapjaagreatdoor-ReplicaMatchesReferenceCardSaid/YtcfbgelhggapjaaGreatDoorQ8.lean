/-
  DERIVED: THE SHELF's CONTRACTS AT THIS DUMP, IN PLAIN WORDS (tools/lay-plain.mjs out of 'YtcfbgelhggapjaaGreatDoorRShIn.lean', which tools/lay-shelf.mjs wrote): THE SAME DECLARATIONS UNDER THE SAME NAMES: 'import', 'namespace', 'open', 'def', 'theorem' AND NOTHING ELSE: no command of the shelf's: FOR A HAND-IN. Each laying: the table of numbers ('.._ren') and one theorem, a field a fact of the dump's own or the kernel's comparison; each contract: ONE APPLICATION.
-/
import Derived.Shelf.SlSortCmp.WholeK
import Derived.Shelf.SlSortCmp.Whole1
import Derived.Shelf.Spec.SlicesGrow
import Derived.Shelf.SlGeneric
import Derived.Ground.SlsfProg
import Derived.Test.YtcfbgelhggapjaaGreatDoorProg
import Derived.Test.YtcfbgelhggapjaaGreatDoorQ4
import Derived.Shelf.SlSortCmp.NoneTotal
import Derived.Test.YtcfbgelhggapjaaGreatDoorQ7
import Derived.Shelf.SlSortCmp.PdqK
import Derived.Test.YtcfbgelhggapjaaGreatDoorQ5
import Derived.Deep.LoopGhost
namespace Go.Proofs.YtcfbgelhggapjaaGreatDoor
open Go.Shelf Go.Proofs
def Tryz.sortRc_ren : Go.Shelf.Ren := ⟨fun | 6 => 79 | 15 => 81 | 14 => 93 | 28 => 102 | 29 => 103 | 20 => 108 | 21 => 109 | 22 => 110 | 23 => 111 | 24 => 112 | 25 => 113 | 26 => 114 | 27 => 115 | 46 => 122 | 47 => 117 | 48 => 118 | 49 => 123 | 50 => 124 | 57 => 127 | n => n, fun | 22 => 23 | 24 => 49 | 25 => 72 | 3 => 3 | 39 => 102 | 0 => 0 | 53 => 122 | 55 => 110 | 4 => 4 | 46 => 115 | 45 => 114 | 50 => 119 | 5 => 5 | 9 => 9 | 66 => 131 | 70 => 93 | 76 => 138 | 77 => 139 | n => n, fun | n => n⟩
theorem Tryz.sortRc : Go.Proofs.SlLaysF0.n6 Tryz.prog Tryz.sortRc_ren := {
  mixed := by kernel_rfl
  f6 := ⟨Tryz.f79.name, by decide, Tryz.func79.trans (congrArg some (by kernel_rfl))⟩
  f14 := ⟨Tryz.f93.name, by decide, Tryz.func93.trans (congrArg some (by kernel_rfl))⟩
  f15 := Tryz.func81.trans (congrArg some (by kernel_rfl))
  f20 := ⟨Tryz.f108.name, by decide, Tryz.func108.trans (congrArg some (by kernel_rfl))⟩
  f21 := ⟨Tryz.f109.name, by decide, Tryz.func109.trans (congrArg some (by kernel_rfl))⟩
  f22 := ⟨Tryz.f110.name, by decide, Tryz.func110.trans (congrArg some (by kernel_rfl))⟩
  f23 := ⟨Tryz.f111.name, by decide, Tryz.func111.trans (congrArg some (by kernel_rfl))⟩
  f24 := ⟨Tryz.f112.name, by decide, Tryz.func112.trans (congrArg some (by kernel_rfl))⟩
  f25 := ⟨Tryz.f113.name, by decide, Tryz.func113.trans (congrArg some (by kernel_rfl))⟩
  f26 := ⟨Tryz.f114.name, by decide, Tryz.func114.trans (congrArg some (by kernel_rfl))⟩
  f27 := ⟨Tryz.f115.name, by decide, Tryz.func115.trans (congrArg some (by kernel_rfl))⟩
  f28 := Tryz.func102.trans (congrArg some (by kernel_rfl))
  f29 := Tryz.func103.trans (congrArg some (by kernel_rfl))
  f46 := ⟨Tryz.f122.name, by decide, Tryz.func122.trans (congrArg some (by kernel_rfl))⟩
  f47 := Tryz.func117.trans (congrArg some (by kernel_rfl))
  f48 := Tryz.func118.trans (congrArg some (by kernel_rfl))
  f49 := ⟨Tryz.f123.name, by decide, Tryz.func123.trans (congrArg some (by kernel_rfl))⟩
  f50 := ⟨Tryz.f124.name, by decide, Tryz.func124.trans (congrArg some (by kernel_rfl))⟩
  f57 := ⟨Tryz.f127.name, by decide, Tryz.func127.trans (congrArg some (by kernel_rfl))⟩
  t0 := Tryz.underlying0
  a0 := Tryz.isAgg0
  z0 := Tryz.sizeOf0
  v0 := Tryz.zeroValue0
  t3 := Tryz.underlying3
  a3 := Tryz.isAgg3
  z3 := Tryz.sizeOf3
  v3 := Tryz.zeroValue3
  t4 := Tryz.underlying4
  a4 := Tryz.isAgg4
  z4 := Tryz.sizeOf4
  v4 := Tryz.zeroValue4
  t5 := Tryz.underlying5
  a5 := Tryz.isAgg5
  z5 := Tryz.sizeOf5
  v5 := Tryz.zeroValue5
  t9 := Tryz.underlying9
  a9 := Tryz.isAgg9
  z9 := Tryz.sizeOf9
  v9 := Tryz.zeroValue9
  t22 := Tryz.underlying23
  a22 := Tryz.isAgg23
  z22 := Tryz.sizeOf23
  v22 := Tryz.zeroValue23
  t25 := Tryz.underlying72
  a25 := Tryz.isAgg72
  z25 := Tryz.sizeOf72
  v25 := Tryz.zeroValue72
  t39 := Tryz.underlying102
  a39 := Tryz.isAgg102
  z39 := Tryz.sizeOf102
  v39 := Tryz.zeroValue102
  t45 := Tryz.underlying114
  a45 := Tryz.isAgg114
  z45 := Tryz.sizeOf114
  v45 := Tryz.zeroValue114
  t46 := Tryz.underlying115
  a46 := Tryz.isAgg115
  z46 := Tryz.sizeOf115
  v46 := Tryz.zeroValue115
  t50 := Tryz.underlying119
  a50 := Tryz.isAgg119
  z50 := Tryz.sizeOf119
  v50 := Tryz.zeroValue119
  t53 := Tryz.underlying122
  a53 := Tryz.isAgg122
  z53 := Tryz.sizeOf122
  v53 := Tryz.zeroValue122
  t55 := Tryz.underlying110
  a55 := Tryz.isAgg110
  z55 := Tryz.sizeOf110
  v55 := Tryz.zeroValue110
  t66 := Tryz.underlying131
  a66 := Tryz.isAgg131
  z66 := Tryz.sizeOf131
  v66 := Tryz.zeroValue131
  t70 := Tryz.underlying93
  a70 := Tryz.isAgg93
  z70 := Tryz.sizeOf93
  v70 := Tryz.zeroValue93
  t76 := Tryz.underlying138
  a76 := Tryz.isAgg138
  z76 := Tryz.sizeOf138
  v76 := Tryz.zeroValue138
  t77 := Tryz.underlying139
  a77 := Tryz.isAgg139
  z77 := Tryz.sizeOf139
  v77 := Tryz.zeroValue139 }
def Tryz.sortFm_ren : Go.Shelf.Ren := ⟨fun | 6 => 44 | 15 => 81 | 14 => 80 | 28 => 102 | 29 => 103 | 20 => 94 | 21 => 95 | 22 => 96 | 23 => 97 | 24 => 98 | 25 => 99 | 26 => 100 | 27 => 101 | 46 => 116 | 47 => 117 | 48 => 118 | 49 => 119 | 50 => 120 | 57 => 125 | n => n, fun | 22 => 66 | 24 => 23 | 25 => 73 | 3 => 3 | 39 => 102 | 0 => 0 | 53 => 122 | 55 => 110 | 4 => 4 | 46 => 115 | 45 => 114 | 50 => 119 | 5 => 5 | 9 => 9 | 66 => 131 | 70 => 93 | 76 => 138 | 77 => 139 | n => n, fun | n => n⟩
theorem Tryz.sortFm : Go.Proofs.SlLaysF0.n6 Tryz.prog Tryz.sortFm_ren := {
  mixed := by kernel_rfl
  f6 := ⟨Tryz.f44.name, by decide, Tryz.func44.trans (congrArg some (by kernel_rfl))⟩
  f14 := ⟨Tryz.f80.name, by decide, Tryz.func80.trans (congrArg some (by kernel_rfl))⟩
  f15 := Tryz.func81.trans (congrArg some (by kernel_rfl))
  f20 := ⟨Tryz.f94.name, by decide, Tryz.func94.trans (congrArg some (by kernel_rfl))⟩
  f21 := ⟨Tryz.f95.name, by decide, Tryz.func95.trans (congrArg some (by kernel_rfl))⟩
  f22 := ⟨Tryz.f96.name, by decide, Tryz.func96.trans (congrArg some (by kernel_rfl))⟩
  f23 := ⟨Tryz.f97.name, by decide, Tryz.func97.trans (congrArg some (by kernel_rfl))⟩
  f24 := ⟨Tryz.f98.name, by decide, Tryz.func98.trans (congrArg some (by kernel_rfl))⟩
  f25 := ⟨Tryz.f99.name, by decide, Tryz.func99.trans (congrArg some (by kernel_rfl))⟩
  f26 := ⟨Tryz.f100.name, by decide, Tryz.func100.trans (congrArg some (by kernel_rfl))⟩
  f27 := ⟨Tryz.f101.name, by decide, Tryz.func101.trans (congrArg some (by kernel_rfl))⟩
  f28 := Tryz.func102.trans (congrArg some (by kernel_rfl))
  f29 := Tryz.func103.trans (congrArg some (by kernel_rfl))
  f46 := ⟨Tryz.f116.name, by decide, Tryz.func116.trans (congrArg some (by kernel_rfl))⟩
  f47 := Tryz.func117.trans (congrArg some (by kernel_rfl))
  f48 := Tryz.func118.trans (congrArg some (by kernel_rfl))
  f49 := ⟨Tryz.f119.name, by decide, Tryz.func119.trans (congrArg some (by kernel_rfl))⟩
  f50 := ⟨Tryz.f120.name, by decide, Tryz.func120.trans (congrArg some (by kernel_rfl))⟩
  f57 := ⟨Tryz.f125.name, by decide, Tryz.func125.trans (congrArg some (by kernel_rfl))⟩
  t0 := Tryz.underlying0
  a0 := Tryz.isAgg0
  z0 := Tryz.sizeOf0
  v0 := Tryz.zeroValue0
  t3 := Tryz.underlying3
  a3 := Tryz.isAgg3
  z3 := Tryz.sizeOf3
  v3 := Tryz.zeroValue3
  t4 := Tryz.underlying4
  a4 := Tryz.isAgg4
  z4 := Tryz.sizeOf4
  v4 := Tryz.zeroValue4
  t5 := Tryz.underlying5
  a5 := Tryz.isAgg5
  z5 := Tryz.sizeOf5
  v5 := Tryz.zeroValue5
  t9 := Tryz.underlying9
  a9 := Tryz.isAgg9
  z9 := Tryz.sizeOf9
  v9 := Tryz.zeroValue9
  t22 := Tryz.underlying66
  a22 := Tryz.isAgg66
  z22 := Tryz.sizeOf66
  v22 := Tryz.zeroValue66
  t25 := Tryz.underlying73
  a25 := Tryz.isAgg73
  z25 := Tryz.sizeOf73
  v25 := Tryz.zeroValue73
  t39 := Tryz.underlying102
  a39 := Tryz.isAgg102
  z39 := Tryz.sizeOf102
  v39 := Tryz.zeroValue102
  t45 := Tryz.underlying114
  a45 := Tryz.isAgg114
  z45 := Tryz.sizeOf114
  v45 := Tryz.zeroValue114
  t46 := Tryz.underlying115
  a46 := Tryz.isAgg115
  z46 := Tryz.sizeOf115
  v46 := Tryz.zeroValue115
  t50 := Tryz.underlying119
  a50 := Tryz.isAgg119
  z50 := Tryz.sizeOf119
  v50 := Tryz.zeroValue119
  t53 := Tryz.underlying122
  a53 := Tryz.isAgg122
  z53 := Tryz.sizeOf122
  v53 := Tryz.zeroValue122
  t55 := Tryz.underlying110
  a55 := Tryz.isAgg110
  z55 := Tryz.sizeOf110
  v55 := Tryz.zeroValue110
  t66 := Tryz.underlying131
  a66 := Tryz.isAgg131
  z66 := Tryz.sizeOf131
  v66 := Tryz.zeroValue131
  t70 := Tryz.underlying93
  a70 := Tryz.isAgg93
  z70 := Tryz.sizeOf93
  v70 := Tryz.zeroValue93
  t76 := Tryz.underlying138
  a76 := Tryz.isAgg138
  z76 := Tryz.sizeOf138
  v76 := Tryz.zeroValue138
  t77 := Tryz.underlying139
  a77 := Tryz.isAgg139
  z77 := Tryz.sizeOf139
  v77 := Tryz.zeroValue139 }
def Tryz.growRc_ren : Go.Shelf.Ren := ⟨fun | 4 => 105 | n => n, fun | 22 => 23 | 25 => 49 | 3 => 3 | 4 => 4 | 9 => 9 | 20 => 20 | 0 => 0 | n => n, fun | n => n⟩
theorem Tryz.growRc : Go.Proofs.Lays8.n4 Tryz.prog Tryz.growRc_ren := {
  mixed := by kernel_rfl
  f4 := ⟨Tryz.f105.name, by decide, Tryz.func105.trans (congrArg some (by kernel_rfl))⟩
  t0 := Tryz.underlying0
  a0 := Tryz.isAgg0
  z0 := Tryz.sizeOf0
  v0 := Tryz.zeroValue0
  t3 := Tryz.underlying3
  a3 := Tryz.isAgg3
  z3 := Tryz.sizeOf3
  v3 := Tryz.zeroValue3
  t4 := Tryz.underlying4
  a4 := Tryz.isAgg4
  z4 := Tryz.sizeOf4
  v4 := Tryz.zeroValue4
  t9 := Tryz.underlying9
  a9 := Tryz.isAgg9
  z9 := Tryz.sizeOf9
  v9 := Tryz.zeroValue9
  t20 := Tryz.underlying20
  a20 := Tryz.isAgg20
  z20 := Tryz.sizeOf20
  v20 := Tryz.zeroValue20
  t22 := Tryz.underlying23
  a22 := Tryz.isAgg23
  z22 := Tryz.sizeOf23
  v22 := Tryz.zeroValue23 }
end Go.Proofs.YtcfbgelhggapjaaGreatDoor
/- Replica: rows of records in the words of the sort; slices.SortFunc at records. -/
namespace Go.Proofs.YtcfbgelhggapjaaGreatDoor
open Go.RowKit
theorem flatKR_eq (d : Array Rc) : Go.Sort.flatK cR 7 d = (d.toList.flatMap cR).toArray := by
  have hl : (d.toList.flatMap cR).length = d.size * 7 := by rw [flat_len cR 7 (fun _ => rfl)]; simp
  refine Go.Sort.ext_get! (by simp [hl]) fun t ht => ?_
  have ht' : t < d.size * 7 := by simpa using ht
  rw [Go.Sort.get_flatK _ _ _ t ht']
  have h1 : t / 7 < d.toList.length := by simp; omega
  have hg := flat_get cR 7 (fun _ => rfl) d.toList (t / 7) h1 (t % 7) (Nat.mod_lt _ (by omega))
  have e : t / 7 * 7 + t % 7 = t := by omega
  rw [e] at hg
  have h2 : t / 7 < d.size := by omega
  have h3 : t % 7 < (cR d[t / 7]).length := by simp only [cR, List.length_cons, List.length_nil]; omega
  rw [getElem!_pos d (t / 7) h2, getElem!_pos (cR d[t / 7]) (t % 7) h3, getElem!_pos _ t (by simp [hl]; omega)]
  have h4 : t < (d.toList.flatMap cR).length := by omega
  rw [List.getElem?_eq_getElem h4, List.getElem?_eq_getElem (by simp only [cR, List.length_cons, List.length_nil]; omega)] at hg
  injection hg with hg
  simp only [List.getElem_toArray]
  rw [hg]
  simp
theorem own_holds {base g cap : Nat} {l : List Rc} {w : World} (h : w.ownsRow base 49 7 (.slice (some ⟨g, 0, none⟩) l.length cap) l.length (l.flatMap cR)) : Go.Sort.HoldsK cR 7 w g 0 l.toArray ∧ g < w.heap.size := by
  obtain ⟨hlen, hn | ⟨g', cap', cur, hv, hbase, hb, hn, hc, hsz, htk⟩⟩ := h
  · exact absurd hn.1 (by simp)
  simp only [Value.slice.injEq, Option.some.injEq, Addr.mk.injEq, and_true, true_and] at hv
  obtain ⟨rfl, rfl⟩ := hv
  refine ⟨?_, (Array.getElem?_eq_some_iff.1 hb).1⟩
  intro j hj
  rw [flatKR_eq] at hj ⊢
  simp only [List.size_toArray] at hj
  have hget : cur.toList[j]? = (l.flatMap cR)[j]? := by
    rw [← htk, List.getElem?_take]
    rw [if_pos (by omega)]
  refine ⟨?_, ?_⟩
  · rw [Nat.zero_add, cell_of_row w g j _ 49 (0, 0) hb]
    have hj' : j < (l.flatMap cR).length := by simpa using hj
    rw [← Array.getElem?_toList, hget, List.getElem?_eq_getElem hj', getElem!_pos _ j (by simpa using hj')]
    simp
  · rw [Nat.zero_add]; exact frozen_of_row w g j _ 49 hb
theorem own_sortw {base g cap : Nat} {l : List Rc} {w : World} (h : w.ownsRow base 49 7 (.slice (some ⟨g, 0, none⟩) l.length cap) l.length (l.flatMap cR)) (d' : Array Rc) (hds : d'.size = l.length) (n : Nat) (os : Array Obj) :
    (sortWorldK cR 7 w g 0 n d' os).ownsRow base 49 7 (.slice (some ⟨g, 0, none⟩) l.length cap) l.length (d'.toList.flatMap cR) ∧ Below base w (sortWorldK cR 7 w g 0 n d' os) := by
  obtain ⟨hlen, hn | ⟨g', cap', cur, hv, hbase, hb, hn, hc, hsz, htk⟩⟩ := h
  · exact absurd hn.1 (by simp)
  simp only [Value.slice.injEq, Option.some.injEq, Addr.mk.injEq, and_true, true_and] at hv
  obtain ⟨rfl, rfl⟩ := hv
  have hblk : g < w.heap.size := (Array.getElem?_eq_some_iff.1 hb).1
  have hF : Go.Sort.flatK cR 7 d' = (d'.toList.flatMap cR).toArray := by rw [flatKR_eq]
  have hFl : (d'.toList.flatMap cR).length = l.length * 7 := by rw [flat_len cR 7 (fun _ => rfl)]; simp [hds]
  have hheap : ∀ k, k < w.heap.size → (sortWorldK cR 7 w g 0 n d' os).heap[k]? = (w.heap.modify g (Go.Sort.onCells (Go.Sort.putCells id 0 (d'.toList.flatMap cR).toArray)))[k]? := by
    intro k hk
    unfold sortWorldK Go.Sort.putRowK
    rw [Go.Sort.heap_grow_old _ _ (by simpa using hk), hF]
    rfl
  refine ⟨⟨hFl, .inr ⟨g, cap, Go.Sort.putCells id 0 (d'.toList.flatMap cR).toArray cur, rfl, hbase, ?_, hn, hc, ?_, ?_⟩⟩, ⟨rfl, rfl, rfl, ?_, fun k hk => ?_⟩⟩
  · rw [hheap g hblk, Array.getElem?_modify, if_pos rfl, hb]; rfl
  · simp [Go.Sort.putCells, hsz]
  · apply List.ext_getElem?
    intro j
    rw [List.getElem?_take]
    by_cases hj : j < l.length * 7
    · rw [if_pos hj]
      have hjc : j < cur.size := by rw [hsz]; omega
      simp only [Go.Sort.putCells, Array.getElem?_toList, Array.getElem?_mapIdx, Array.getElem?_eq_getElem hjc, Option.map_some, List.size_toArray, Nat.zero_le, true_and, Nat.zero_add, Nat.sub_zero]
      rw [if_pos (by rw [hFl]; exact hj), List.getElem?_eq_getElem (by rw [hFl]; exact hj), getElem!_pos _ j (by simp [hFl]; omega)]
      simp
    · rw [if_neg hj, List.getElem?_eq_none (by omega)]
  · unfold sortWorldK Go.Sort.putRowK
    simp
  · rw [hheap k (by omega), Array.getElem?_modify, if_neg (by omega)]
theorem perm_all {l : List Rc} {d' : Array Rc} (hp : Go.Sort.PermIn 0 l.toArray.size l.toArray d') : d'.size = l.length ∧ d'.toList.Perm l := by
  simp only [List.size_toArray] at hp
  have hds : d'.size = l.length := by simpa using hp.1
  refine ⟨hds, ?_⟩
  have h3 := hp.2.2
  have e1 : d'.extract 0 l.length = d' := by rw [← hds]; simp
  have e2 : l.toArray.extract 0 l.length = l.toArray := by simp
  rw [e1, e2] at h3
  exact h3
theorem sortedR_pairwise {cf : Rc → Rc → Int} {d : Array Rc} (h : Go.Sort.SortedIn (ltOf cf) 0 d.size d) : d.toList.Pairwise (fun x y => ¬ cf y x < 0) := by
  rw [List.pairwise_iff_getElem]
  intro i j hi hj hij
  have := h i j (Nat.zero_le _) hij (by simpa using hj)
  simp only [Array.length_toList] at hi hj
  rw [getElem!_pos d j hj, getElem!_pos d i hi] at this
  unfold ltOf at this
  simp only [Array.getElem_toList]
  rw [decide_eq_false_iff_not] at this
  exact this
theorem swoL : Go.Sort.SWO (ltOf lsZ) where
  irrefl x := by simp only [ltOf, decide_eq_false_iff_not, lsZ_neg, ls_irr]; decide
  trans x y z h1 h2 := by simp only [ltOf, decide_eq_true_eq, lsZ_neg] at *; exact ls_trans h1 h2
  ntrans x y z h1 h2 := by simp only [ltOf, decide_eq_false_iff_not, lsZ_neg, ls_iff] at *; omega
theorem swoB : Go.Sort.SWO (ltOf bfZ) where
  irrefl x := by simp only [ltOf, decide_eq_false_iff_not, bfZ_neg, bf_irr]; decide
  trans x y z h1 h2 := by simp only [ltOf, decide_eq_true_eq, bfZ_neg] at *; exact bf_trans h1 h2
  ntrans x y z h1 h2 := by simp only [ltOf, decide_eq_false_iff_not, bfZ_neg, bf_iff] at *; omega
theorem one_cR (x : Rc) (v : Value) (hv : v ∈ cR x) : v.oneCell' = true := by
  simp only [cR, List.mem_cons, List.not_mem_nil, or_false] at hv
  rcases hv with rfl | rfl | rfl | rfl | rfl | rfl | rfl <;> rfl
theorem c_sortRc (l : List Rc) (base g cap : Nat) (w : World) (hl : l.length ≤ 1000000) (h : w.ownsRow base 49 7 (.slice (some ⟨g, 0, none⟩) l.length cap) l.length (l.flatMap cR)) :
    Calls Tryz.prog 79 #[.slice (some ⟨g, 0, none⟩) l.length cap, .func (.func 46) #[] #[]] w fun e w' => e = .returned (.tuple #[]) ∧ ∃ s : List Rc, s.Perm l ∧ s.Pairwise (fun a b => bfB b a = false) ∧ w'.ownsRow base 49 7 (.slice (some ⟨g, 0, none⟩) l.length cap) l.length (s.flatMap cR) ∧ Below base w w' := by
  obtain ⟨hH, hblk⟩ := own_holds h
  have hcon := AnyQ.slices_SortFunc Tryz.sortRc 7 (by intro w; kernel_rfl) (by intro w; kernel_rfl) cR (fun _ => rfl) one_cR bfZ swoB 46 #[] g 0 cap l.toArray w
    (enters_of Tryz.func46 (by kernel_rfl) rfl) (fun m os dk _ x y => c_pbefore x y _) hH hblk (by simp; omega)
  refine hcon.mono ?_
  rintro e w' ⟨rfl, d', n, os, hp, hs, rfl⟩
  obtain ⟨hds, hperm⟩ := perm_all hp
  simp only [List.size_toArray] at hs
  rw [← hds] at hs
  obtain ⟨h1, h2⟩ := own_sortw h d' hds n os
  refine ⟨rfl, d'.toList, hperm, ?_, h1, h2⟩
  refine (sortedR_pairwise hs).imp fun {a b} hab => ?_
  rw [bfZ_neg] at hab
  simpa using hab
theorem c_sortRcNone (p : Option Addr) (cap : Nat) (fv : Value) (w : World) : Calls Tryz.prog 79 #[.slice p 0 cap, fv] w fun e w' => e = .returned (.tuple #[]) ∧ w' = w := AnyF.slices_SortFunc_none Tryz.sortRc p cap fv w
end Go.Proofs.YtcfbgelhggapjaaGreatDoor
/- Replica: the stable sort at records: stableCmpFunc, slices.SortStableFunc. -/
namespace Go.Proofs.YtcfbgelhggapjaaGreatDoor
open Go.RowKit Go.Shelf Go.Sort Go.Lib
section
variable {α : Type} [Inhabited α] {lt : α → α → Bool}
/-- all blocks of bs elements are sorted, the last one too -/
def AllB (lt : α → α → Bool) (bs N : Nat) (d : Array α) : Prop := ∀ j, SortedIn lt (j * bs) (min ((j + 1) * bs) N) d
theorem sorted_lo {a m x y : Nat} {d d' : Array α} (h : PermIn a m d d') (hs : SortedIn lt x y d) (hy : y ≤ a) : SortedIn lt x y d' := by
  intro i j hi hij hj
  rw [h.2.1 i (by omega), h.2.1 j (by omega)]
  exact hs i j hi hij hj
theorem st_pieces {bs N k a : Nat} {d : Array α} (ha : a = k * (2 * bs)) (h2 : ∀ j, 2 * k ≤ j → SortedIn lt (j * bs) (min ((j + 1) * bs) N) d) : SortedIn lt a (min (a + bs) N) d ∧ SortedIn lt (a + bs) (min (a + 2 * bs) N) d := by
  have e1 : 2 * k * bs = a := by rw [ha, Nat.mul_comm 2 k, Nat.mul_assoc]
  have e2 : (2 * k + 1) * bs = a + bs := by rw [Nat.add_mul, e1, Nat.one_mul]
  have e3 : (2 * k + 1 + 1) * bs = a + 2 * bs := by rw [Nat.add_mul, e2]; omega
  have p1 := h2 (2 * k) (Nat.le_refl _)
  rw [e1, e2] at p1
  have p2 := h2 (2 * k + 1) (by omega)
  rw [e2, e3] at p2
  exact ⟨p1, p2⟩
theorem st_next {bs N k a : Nat} {d d3 : Array α} (ha : a = k * (2 * bs)) (h1 : ∀ j, j < k → SortedIn lt (j * (2 * bs)) ((j + 1) * (2 * bs)) d) (h2 : ∀ j, 2 * k ≤ j → SortedIn lt (j * bs) (min ((j + 1) * bs) N) d)
    (hp : PermIn a (a + 2 * bs) d d3) (hs : SortedIn lt a (a + 2 * bs) d3) :
    a + 2 * bs = (k + 1) * (2 * bs) ∧ (∀ j, j < k + 1 → SortedIn lt (j * (2 * bs)) ((j + 1) * (2 * bs)) d3) ∧ (∀ j, 2 * (k + 1) ≤ j → SortedIn lt (j * bs) (min ((j + 1) * bs) N) d3) := by
  have e : a + 2 * bs = (k + 1) * (2 * bs) := by rw [Nat.add_mul, ← ha, Nat.one_mul]
  refine ⟨e, fun j hj => ?_, fun j hj => ?_⟩
  · by_cases hk : j = k
    · subst hk; rw [← e, ← ha]; exact hs
    · refine sorted_lo hp (h1 j (by omega)) ?_
      rw [ha]
      exact Nat.mul_le_mul_right _ (by omega)
  · refine sorted_out hp (h2 j (by omega)) ?_
    have : (2 * (k + 1)) * bs ≤ j * bs := Nat.mul_le_mul_right _ hj
    have e4 : (2 * (k + 1)) * bs = a + 2 * bs := by rw [e, Nat.mul_comm 2 (k + 1), Nat.mul_assoc]
    omega
theorem st_end {bs N k a : Nat} {d d3 : Array α} (ha : a = k * (2 * bs)) (hN : N < a + 2 * bs) (haN : a ≤ N) (h1 : ∀ j, j < k → SortedIn lt (j * (2 * bs)) ((j + 1) * (2 * bs)) d) (hp : PermIn a N d d3) (hs : SortedIn lt a N d3) : AllB lt (2 * bs) N d3 := by
  have e : a + 2 * bs = (k + 1) * (2 * bs) := by rw [Nat.add_mul, ← ha, Nat.one_mul]
  intro j
  rcases Nat.lt_trichotomy j k with hj | rfl | hj
  · have h3 : (j + 1) * (2 * bs) ≤ k * (2 * bs) := Nat.mul_le_mul_right _ hj
    rw [← ha] at h3
    rw [Nat.min_eq_left (by omega)]
    exact sorted_lo hp (h1 j hj) h3
  · rw [← ha, ← e, Nat.min_eq_right (by omega)]
    exact hs
  · have h3 : (k + 1) * (2 * bs) ≤ j * (2 * bs) := Nat.mul_le_mul_right _ hj
    rw [← e] at h3
    intro i j' hi hij hj'
    have : min ((j + 1) * (2 * bs)) N ≤ N := Nat.min_le_right _ _
    omega
end
theorem stP : StP Tryz.prog 7 where
  mixed := by kernel_rfl
  t0 := Tryz.underlying0
  a0 := by intro w; kernel_rfl
  z0 := by intro w; kernel_rfl
  v0 := by intro w; kernel_rfl
  t3 := Tryz.underlying3
  a3 := by intro w; kernel_rfl
  z3 := by intro w; kernel_rfl
  v3 := by intro w; kernel_rfl
  t4 := Tryz.underlying4
  a4 := by intro w; kernel_rfl
  z4 := by intro w; kernel_rfl
  v4 := by intro w; kernel_rfl
  tR := Tryz.underlying23
  aR := by intro w; kernel_rfl
  zR := by intro w; kernel_rfl
  vR := by intro w; kernel_rfl
  tC := Tryz.underlying72
  aC := by intro w; kernel_rfl
  zC := by intro w; kernel_rfl
  vC := by intro w; kernel_rfl
  tU := Tryz.underlying102
  aU := by intro w; kernel_rfl
  zU := by intro w; kernel_rfl
  vU := by intro w; kernel_rfl
  aE := by intro w; kernel_rfl
  zE := by intro w; kernel_rfl
  gSw := Tryz.func128
  eSw := enters_of Tryz.func128 (by kernel_rfl) rfl
  gRo := Tryz.func126
  eRo := enters_of Tryz.func126 (by kernel_rfl) rfl
  gSy := Tryz.func121
  eSy := enters_of Tryz.func121 (by kernel_rfl) rfl
theorem c_ins (blk off cap N a b g : Nat) (cb : Array Value) (cf : Rc → Rc → Int) (d0 d : Array Rc) (w0 w : World) (eg : ∀ args w, (callFunc g args).run Tryz.prog w = .ok (.enter g args) w) (hcmp : CmpLays Tryz.prog g cb cR 7 cf blk off d0.size w0) (hO : SWO (ltOf cf))
    (hR : RowK cR 7 w0 blk off d0) (hN : d0.size = N) (hs : d.size = N) (hS : SWK cR 7 w0 blk off d w) (hab : a ≤ b) (hb : b ≤ N) (hsz : N < 2305843009213693952) :
    Calls Tryz.prog 108 #[.slice (some ⟨blk, off, none⟩) N cap, .int .i64 a, .int .i64 b, .func (.func g) #[] cb] w fun e w' => e = .returned (.tuple #[]) ∧ ∃ d', d'.size = N ∧ PermIn a b d d' ∧ SortedIn (ltOf cf) a b d' ∧ SWK cR 7 w0 blk off d' w' := by
  have h := AnyQ.insertionSortCmpFunc_w (P := Tryz.prog) (ρ := Tryz.sortRc_ren) { Tryz.sortRc with } 7 (by intro w; kernel_rfl) (by intro w; kernel_rfl) cR cf g cb blk off cap a b d0 d w0 w eg hcmp hR (by omega) hS hO hab (by omega) (by omega)
  rw [hs] at h
  refine h.mono ?_
  rintro e w' ⟨rfl, hw⟩
  obtain ⟨h1, h2⟩ := insertionSort_holds hO d a b hab (by omega)
  exact ⟨rfl, _, by rw [h1.1]; exact hs, h1, h2, hw⟩
set_option maxHeartbeats 16000000 in
set_option maxRecDepth 1000000 in
theorem g_stable (blk off cap N g : Nat) (cb : Array Value) (cf : Rc → Rc → Int) (d0 d : Array Rc) (w0 w : World) (eg : ∀ args w, (callFunc g args).run Tryz.prog w = .ok (.enter g args) w) (hcmp : CmpLays Tryz.prog g cb cR 7 cf blk off d0.size w0) (hO : SWO (ltOf cf))
    (hR : RowK cR 7 w0 blk off d0) (hN : d0.size = N) (hs : d.size = N) (hS : SWK cR 7 w0 blk off d w) (hsz : N ≤ 1000000) :
    Calls Tryz.prog 106 #[.slice (some ⟨blk, off, none⟩) N cap, .int .i64 N, .func (.func g) #[] cb] w fun e w' => e = .returned (.tuple #[]) ∧ ∃ d', PermIn 0 N d d' ∧ SortedIn (ltOf cf) 0 N d' ∧ SWK cR 7 w0 blk off d' w' := by
  have S0 : Aside (SWK cR 7 w0 blk off d w) := hS
  have HI : Hid (∀ (a b : Nat) (dk : Array Rc) (wr : World), dk.size = N → SWK cR 7 w0 blk off dk wr → a ≤ b → b ≤ N → Calls Tryz.prog 108 #[.slice (some ⟨blk, off, none⟩) N cap, .int .i64 a, .int .i64 b, .func (.func g) #[] cb] wr fun e w' => e = .returned (.tuple #[]) ∧ ∃ d', d'.size = N ∧ PermIn a b dk d' ∧ SortedIn (ltOf cf) a b d' ∧ SWK cR 7 w0 blk off d' w') := hide (fun a b dk wr h1 h2 h3 h4 => c_ins blk off cap N a b g cb cf d0 dk w0 wr eg hcmp hO hR hN h1 h2 h3 h4 (by omega))
  have HM : Hid (∀ (a m b : Nat) (dk : Array Rc) (wr : World), dk.size = N → SWK cR 7 w0 blk off dk wr → a < m → m < b → b ≤ N → SortedIn (ltOf cf) a m dk → SortedIn (ltOf cf) m b dk → Calls Tryz.prog 121 #[.slice (some ⟨blk, off, none⟩) N cap, .int .i64 a, .int .i64 m, .int .i64 b, .func (.func g) #[] cb] wr fun e w' => e = .returned (.tuple #[]) ∧ ∃ d', PermIn a b dk d' ∧ SortedIn (ltOf cf) a b d' ∧ SWK cR 7 w0 blk off d' w') := hide (fun a m b dk wr h1 h2 h3 h4 h5 h6 h7 => g_symMerge stP blk off cap N g cb cf d0 w0 eg hcmp hO hR hN (by omega) (b - a) a m b dk wr (Nat.le_refl _) h1 h2 h3 h4 h5 h6 h7)
  clear hcmp hO hR hN hS eg
  go_enter Tryz.func106, Tryz.ntmps106
  go_wp2
  go_loopg [7, 8] N (fun kx s7 s8 wr => ∃ (a k : Nat) (dk : Array Rc), s7 = .int .i64 a ∧ s8 = .int .i64 ((a : Int) + 20) ∧ a ≤ N ∧ N - a ≤ kx ∧ dk.size = N ∧ Aside (SWK cR 7 w0 blk off dk wr) ∧ Hid (a = k * 20 ∧ PermIn 0 N d dk ∧ ∀ j, j < k → SortedIn (ltOf cf) (j * 20) ((j + 1) * 20) dk))
  case atStart => exact ⟨0, 0, d, rfl, rfl, Nat.zero_le _, Nat.le_refl _, hs, S0, by simp, permIn_refl _ _ _, fun j hj => absurd hj (by omega)⟩
  case round =>
    clear S0
    obtain ⟨a, k, dk, rfl, rfl, haN, hkx, hds, S1, HR⟩ := hrel
    by_cases hlt : a + 20 ≤ N
    · have hltz : (a : Int) + 20 ≤ (N : Int) := by omega
      have hc := HI.out a (a + 20) dk _ hds S1.out (by omega) hlt
      rw [show ((a + 20 : Nat) : Int) = (a : Int) + 20 by omega] at hc
      clear S1
      go_wp2_with (go_at_call 108; refine hc.mono ?_; rintro e w1 ⟨rfl, d1, hd1, hp1, hs1, S2⟩)
      go_roundg (N - (a + 20))
      case measure => omega
      case rel =>
        refine ⟨a + 20, k + 1, d1, by go_num, by go_num, hlt, Nat.le_refl _, hd1, S2, ?_⟩
        obtain ⟨r1, r2, r3⟩ := HR.out
        refine ⟨by omega, permIn_trans _ _ _ _ _ r2 (permIn_mono _ _ _ _ _ _ (Nat.zero_le _) hlt (by omega) hp1), fun j hj => ?_⟩
        by_cases hjk : j = k
        · subst hjk
          rw [show j * 20 = a by omega, show (j + 1) * 20 = a + 20 by omega]; exact hs1
        · exact sorted_lo hp1 (r3 j (by omega)) (by omega)
    · have hltz : ¬ (a : Int) + 20 ≤ (N : Int) := by omega
      have hc := HI.out a N dk _ hds S1.out haN (Nat.le_refl _)
      clear S1
      go_wp2_with (go_at_call 108; refine hc.mono ?_; rintro e w1 ⟨rfl, d1, hd1, hp1, hs1, S2⟩)
      have HA : Hid (PermIn 0 N d d1 ∧ AllB (ltOf cf) 20 N d1) := hide (by
        obtain ⟨r1, r2, r3⟩ := HR.out
        refine ⟨permIn_trans _ _ _ _ _ r2 (permIn_mono _ _ _ _ _ _ (Nat.zero_le _) (Nat.le_refl _) (by omega) hp1), fun j => ?_⟩
        rcases Nat.lt_trichotomy j k with hj | rfl | hj
        · rw [Nat.min_eq_left (by omega)]
          exact sorted_lo hp1 (r3 j hj) (by omega)
        · rw [Nat.min_eq_right (by omega), show j * 20 = a by omega]; exact hs1
        · intro i j' hi hij hj'
          have : min ((j + 1) * 20) N ≤ N := Nat.min_le_right _ _
          omega)
      clear hc HR hp1 hs1 hlt hltz hkx haN hds
      go_wp2
      go_loopg [6, 7, 8, 9] N (fun kx s6 _ _ _ wr => ∃ (bs : Nat) (dk : Array Rc), s6 = .int .i64 bs ∧ 20 ≤ bs ∧ bs ≤ 2 * N + 20 ∧ N - bs ≤ kx ∧ dk.size = N ∧ Aside (SWK cR 7 w0 blk off dk wr) ∧ Hid (PermIn 0 N d dk ∧ AllB (ltOf cf) bs N dk))
      case atStart => exact ⟨20, d1, rfl, Nat.le_refl _, by omega, by omega, hd1, S2, HA⟩
      case round =>
        clear S2 HA hd1
        obtain ⟨bs, dk, rfl, hb20, hbN, hkx, hds, S1, HR⟩ := hrel
        by_cases hlt : bs < N
        · have hltz : (bs : Int) < (N : Int) := by omega
          go_wp2
          go_loopg [7, 8] N (fun kx s7 s8 wr => ∃ (a k : Nat) (d2 : Array Rc), s7 = .int .i64 a ∧ s8 = .int .i64 ((a : Int) + 2 * (bs : Int)) ∧ a ≤ N ∧ N - a ≤ kx ∧ d2.size = N ∧ Aside (SWK cR 7 w0 blk off d2 wr) ∧ Hid (a = k * (2 * bs) ∧ PermIn 0 N d d2 ∧ (∀ j, j < k → SortedIn (ltOf cf) (j * (2 * bs)) ((j + 1) * (2 * bs)) d2) ∧ (∀ j, 2 * k ≤ j → SortedIn (ltOf cf) (j * bs) (min ((j + 1) * bs) N) d2)))
          case atStart => exact ⟨0, 0, dk, rfl, by go_num, Nat.zero_le _, by omega, hds, S1, by simp, HR.out.1, fun j hj => absurd hj (by omega), fun j _ => HR.out.2 j⟩
          case round =>
            clear S1
            obtain ⟨a, k, d2, rfl, rfl, haN, hkx2, hd2, S3, HQ⟩ := hrel
            have HP := hide (st_pieces HQ.out.1 HQ.out.2.2.2)
            by_cases hab : a + 2 * bs ≤ N
            · have hz : (a : Int) + 2 * (bs : Int) ≤ (N : Int) := by omega
              have hc := HM.out a (a + bs) (a + 2 * bs) d2 _ hd2 S3.out (by omega) (by omega) hab (by have h := HP.out.1; rwa [Nat.min_eq_left (by omega)] at h) (by have h := HP.out.2; rwa [Nat.min_eq_left (by omega)] at h)
              rw [show ((a + bs : Nat) : Int) = (a : Int) + (bs : Int) by omega, show ((a + 2 * bs : Nat) : Int) = (a : Int) + 2 * (bs : Int) by omega] at hc
              clear S3
              go_wp2_with (go_at_call 121; refine hc.mono ?_; rintro e w1 ⟨rfl, d3, hp3, hs3, S4⟩)
              go_roundg (N - (a + 2 * bs))
              case measure => omega
              case rel =>
                obtain ⟨r1, r2, r3, r4⟩ := HQ.out
                obtain ⟨n1, n2, n3⟩ := st_next r1 r3 r4 hp3 hs3
                exact ⟨a + 2 * bs, k + 1, d3, by go_num, by go_num, hab, Nat.le_refl _, by rw [hp3.1]; exact hd2, S4, n1, permIn_trans _ _ _ _ _ r2 (permIn_mono _ _ _ _ _ _ (Nat.zero_le _) hab (by omega) hp3), n2, n3⟩
            · have hz : ¬ (a : Int) + 2 * (bs : Int) ≤ (N : Int) := by omega
              by_cases ham : a + bs < N
              · have hz2 : (a : Int) + (bs : Int) < (N : Int) := by omega
                have hc := HM.out a (a + bs) N d2 _ hd2 S3.out (by omega) ham (Nat.le_refl _) (by have h := HP.out.1; rwa [Nat.min_eq_left (by omega)] at h) (by have h := HP.out.2; rwa [Nat.min_eq_right (by omega)] at h)
                rw [show ((a + bs : Nat) : Int) = (a : Int) + (bs : Int) by omega] at hc
                clear S3
                go_wp2_with (go_at_call 121; refine hc.mono ?_; rintro e w1 ⟨rfl, d3, hp3, hs3, S4⟩)
                go_roundg (N - 2 * bs)
                case measure => omega
                case rel =>
                  obtain ⟨r1, r2, r3, r4⟩ := HQ.out
                  exact ⟨2 * bs, d3, by go_num, by omega, by omega, Nat.le_refl _, by rw [hp3.1]; exact hd2, S4, permIn_trans _ _ _ _ _ r2 (permIn_mono _ _ _ _ _ _ (Nat.zero_le _) (Nat.le_refl _) (by omega) hp3), st_end r1 (by omega) haN r3 hp3 hs3⟩
              · have hz2 : ¬ (a : Int) + (bs : Int) < (N : Int) := by omega
                go_wp2
                go_roundg (N - 2 * bs)
                case measure => omega
                case rel =>
                  obtain ⟨r1, r2, r3, r4⟩ := HQ.out
                  exact ⟨2 * bs, d2, by go_num, by omega, by omega, Nat.le_refl _, hd2, S3, r2, st_end r1 (by omega) haN r3 (permIn_refl _ _ _) (by have h := HP.out.1; rwa [Nat.min_eq_right (by omega)] at h)⟩
        · have hltz : ¬ (bs : Int) < (N : Int) := by omega
          have HF := hide (show SortedIn (ltOf cf) 0 N dk by have h := HR.out.2 0; rwa [Nat.zero_mul, Nat.min_eq_right (by omega)] at h)
          go_wp2
          go_end0
          exact ⟨rfl, dk, HR.out.1, HF.out, S1.out⟩
end Go.Proofs.YtcfbgelhggapjaaGreatDoor
namespace Go.Proofs.YtcfbgelhggapjaaGreatDoor
open Go.RowKit Go.Shelf
theorem c_sortStable (l : List Rc) (base g cap : Nat) (w : World) (hl : l.length ≤ 1000000) (h : w.ownsRow base 49 7 (.slice (some ⟨g, 0, none⟩) l.length cap) l.length (l.flatMap cR)) :
    Calls Tryz.prog 89 #[.slice (some ⟨g, 0, none⟩) l.length cap, .func (.func 51) #[] #[]] w fun e w' => e = .returned (.tuple #[]) ∧ ∃ s : List Rc, s.Perm l ∧ s.Pairwise (fun a b => lsB b a = false) ∧ w'.ownsRow base 49 7 (.slice (some ⟨g, 0, none⟩) l.length cap) l.length (s.flatMap cR) ∧ Below base w w' := by
  obtain ⟨hH, hblk⟩ := own_holds h
  have hc := g_stable g 0 cap l.length 51 #[] lsZ l.toArray l.toArray w w (enters_of Tryz.func51 (by kernel_rfl) rfl) (fun m os dk _ x y => c_plisted x y _) swoL ⟨fun _ => rfl, one_cR, hH, hblk⟩ (by simp) (by simp) (SWK.start hH) hl
  have HW := hide h
  clear h hH hblk
  go_enter Tryz.func89, Tryz.ntmps89
  go_wp2_with (go_at_call 106; refine hc.mono ?_; clear hc; rintro e w1 ⟨rfl, d', hp, hs, n, os, rfl⟩)
  go_end0
  obtain ⟨hds, hperm⟩ := perm_all (l := l) (d' := d') (by simpa using hp)
  rw [← hds] at hs
  obtain ⟨h1, h2⟩ := own_sortw HW.out d' hds n os
  refine ⟨rfl, d'.toList, hperm, ?_, h1, h2⟩
  refine (sortedR_pairwise hs).imp fun {a b} hab => ?_
  rw [lsZ_neg] at hab
  simpa using hab
end Go.Proofs.YtcfbgelhggapjaaGreatDoor
/- Replica: slices.Concat at records; merged. -/
namespace Go.Proofs.YtcfbgelhggapjaaGreatDoor
open Go.RowKit Go.Shelf
theorem zc_size (k : Nat) : (Builtin.zeroCells zV.cells k).size = k * 7 := by
  unfold Builtin.zeroCells
  rw [Array.size_map, Array.size_range]
  rfl
set_option maxRecDepth 100000 in
theorem c_grow (n : Nat) (w : World) (hn : n ≤ 1000000) : Calls Tryz.prog 105 #[.slice none 0 0, .int .i64 n] w fun e w' => ∃ v, e = .returned v ∧ w'.ownsRow w.heap.size 49 7 v 0 [] ∧ Below w.heap.size w w' := by
  obtain ⟨i0, hi, hz0, hz1, hz2⟩ := info_parts Tryz.infoRec
  rcases Nat.eq_zero_or_pos n with rfl | h0
  · refine (Any8.slices_Grow_room Tryz.growRc none 0 0 0 w (Nat.le_refl _) (by decide) (by decide) (Nat.le_refl _)).mono ?_
    rintro e w' ⟨rfl, rfl⟩
    exact ⟨_, rfl, World.ownsRow_nil _ _ _ _, Below.refl _ _⟩
  · refine (Any8.slices_Grow_grow Tryz.growRc i0 zV hi hz0 (by omega) none 0 0 n [] w (Nat.le_refl _) (by omega) (by rw [hz2]; omega) (by omega) (by simp) (fun _ => rfl) (fun a h => by cases h)).mono ?_
    rintro e w' ⟨rfl, rfl⟩
    refine ⟨_, rfl, ⟨by simp, .inr ⟨w.heap.size, grownCap w (0 + n) 0 49, _, rfl, Nat.le_refl _, heap_alloc_new _ _, Nat.zero_le _, grownCap_le_maxLen _ _ _ _ (by unfold maxLen; omega), ?_, by simp⟩⟩, balloc (bdrew (Below.refl _ _)) _⟩
    have hg := grownCap_ge w (0 + n) 0 49
    rw [Array.size_append, Array.size_append, zc_size, zc_size]
    rw [show Tryz.growRc_ren.t 25 = 49 from rfl]
    simp only [List.size_toArray, List.length_nil, Nat.zero_add, Nat.sub_zero] at hg ⊢
    generalize grownCap w n 0 49 = q at *
    rw [← Nat.add_mul]
    congr 1
    omega
set_option linter.unusedSimpArgs false in
set_option maxRecDepth 100000 in
set_option maxHeartbeats 8000000 in
theorem c_sConcat (A B : Option Addr) (n c m d : Nat) (la lb : List Rc) (g : Nat) (w : World) (hn : n ≤ 1000) (hm : m ≤ 1000) (h0 : w.cell? ⟨g, 0, none⟩ = some (.slice A n c)) (h1 : w.cell? ⟨g, 1, none⟩ = some (.slice B m d))
    (hr : SlR w w.heap.size 7 A n (la.flatMap cR)) (hs : SlR w w.heap.size 7 B m (lb.flatMap cR)) :
    Calls Tryz.prog 88 #[.slice (some ⟨g, 0, none⟩) 2 2] w fun e w' => ∃ v, e = .returned v ∧ w'.ownsRow w.heap.size 49 7 v (la ++ lb).length ((la ++ lb).flatMap cR) ∧ Below w.heap.size w w' := by
  obtain ⟨i0, hi, hz0, hz1, hz2⟩ := info_parts Tryz.infoRec
  have hgl := World.block_lt_of_cell? w _ h0
  simp only [] at hgl
  have HL := hide (And.intro hr.lenR hs.lenR)
  have HR := hide (And.intro hr hs)
  have hsum : Hid (∀ q : Nat, q ≤ n + m → wrap64 ((q : Int)) = q) := hide (fun q hq => by unfold wrap64; omega)
  clear hr hs
  go_enter Tryz.func88, Tryz.ntmps88
  go_wp2
  go_loop [3, 5, 11] (fun s _ i => ∃ k t : Nat, k ≤ 2 ∧ i = .int .i64 k ∧ s = .int .i64 t ∧ t ≤ n + m ∧ (k = 0 ∧ t = 0 ∨ k = 1 ∧ t = n ∨ k = 2 ∧ t = n + m)) (fun _ _ i => 2 - (intOf i).toNat)
  case atStart => exact ⟨0, 0, by omega, rfl, rfl, Nat.zero_le _, .inl ⟨rfl, rfl⟩⟩
  case round =>
    obtain ⟨k, t, hk, rfl, rfl, ht, hkt⟩ := hrel
    rcases hkt with ⟨rfl, rfl⟩ | ⟨rfl, rfl⟩ | ⟨rfl, rfl⟩
    · clear hk ht
      go_wp2_with fail
      go_round
      case rel => exact ⟨1, n, by omega, by go_num, by go_num, by omega, .inr (.inl ⟨rfl, rfl⟩)⟩
      case measure => simp [intOf]
    · clear hk ht
      have hneg : ¬ ((t : Int) + (m : Int) < 0) := by omega
      go_wp2_with fail
      go_round
      case rel => exact ⟨2, t + m, by omega, by go_num, by go_num, by omega, .inr (.inr ⟨rfl, rfl⟩)⟩
      case measure => simp [intOf]
    · clear hk ht
      have hcg := c_grow (n + m) w (by omega)
      rw [show ((n + m : Nat) : Int) = (n : Int) + (m : Int) by omega] at hcg
      go_wp2_with (go_at_call 105; refine hcg.mono ?_; clear hcg; rintro e w1 ⟨v, rfl, hv, hb⟩)
      have HV := hide (And.intro hv hb)
      obtain ⟨Av, cv, rfl, hcv1, hcv2, _⟩ := SlR.of_own hv
      clear hv
      go_loopw [6, 8, 27] (fun s _ i wr => ∃ k : Nat, k ≤ 2 ∧ i = .int .i64 k ∧ Below w.heap.size w wr ∧ wr.ownsRow w.heap.size 49 7 s (if k = 0 then 0 else if k = 1 then n else n + m) (if k = 0 then [] else if k = 1 then la.flatMap cR else (la ++ lb).flatMap cR)) (fun _ _ i _ => 2 - (intOf i).toNat)
      case atStart => exact ⟨0, by omega, rfl, HV.out.2, HV.out.1⟩
      case round =>
        clear HV hb
        obtain ⟨k, hk, rfl, hb, hown⟩ := hrel
        obtain ⟨A1, c1, rfl, hc1, hc2, -⟩ := SlR.of_own hown
        have hkk : k = 0 ∨ k = 1 ∨ k = 2 := by omega
        have hwl := hb.size
        have y0 := (hb.cell (p := ⟨g, 0, none⟩) hgl).trans h0
        have y1 := (hb.cell (p := ⟨g, 1, none⟩) hgl).trans h1
        obtain ⟨wo, rfl⟩ : ∃ wo : World, wo = wr := ⟨_, rfl⟩
        have hgw : g < wo.heap.size := by omega
        rcases hkk with rfl | rfl | rfl
        · simp only [if_true] at hown ⊢
          have HB := hide hb
          clear hb hk
          go_wp2_with (at_builtin; refine wpList_append_sl (size := 7) (w0 := w) (B := w.heap.size) rfl _ _ 23 rfl w.heap.size 49 i0 zV 64 Tryz.underlying23 hi hz0 hz1 hz2 rfl (by decide) (.slice A1 0 c1) 0 [] rfl hown n c (la.flatMap cR) rfl HR.out.1 HB.out (fun u hu => oneR _ u hu) (by unfold maxLen; omega) (by omega) hwl ?_; intro v6 w6 hown6 hgrow6 hor6)
          go_roundw
          case rel =>
            rw [Nat.zero_add, List.nil_append] at hown6
            exact ⟨1, by omega, by go_num, bgrown HB.out hgrow6 (own_ge hown), hown6⟩
          case measure => simp [intOf]
        · simp only [show ((1 : Nat) = 0) = False from by simp, if_true, if_false] at hown ⊢
          have HB := hide hb
          clear hb hk
          go_wp2_with (at_builtin; refine wpList_append_sl (size := 7) (w0 := w) (B := w.heap.size) rfl _ _ 23 rfl w.heap.size 49 i0 zV 64 Tryz.underlying23 hi hz0 hz1 hz2 rfl (by decide) (.slice A1 n c1) n (la.flatMap cR) rfl hown m d (lb.flatMap cR) rfl HR.out.2 HB.out (fun u hu => oneR _ u hu) (by unfold maxLen; omega) (by omega) hwl ?_; intro v6 w6 hown6 hgrow6 hor6)
          go_roundw
          case rel =>
            rw [← List.flatMap_append] at hown6
            exact ⟨2, by omega, by go_num, bgrown HB.out hgrow6 (own_ge hown), hown6⟩
          case measure => simp [intOf]
        · simp only [show ((2 : Nat) = 0) = False from by simp, show ((2 : Nat) = 1) = False from by simp, if_false] at hown ⊢
          have HB := hide (And.intro hb hown)
          clear hb hk hown
          go_wp2
          go_ret
          refine ⟨_, rfl, ?_, HB.out.1⟩
          rw [List.length_append, HL.out.1, HL.out.2]
          exact HB.out.2
end Go.Proofs.YtcfbgelhggapjaaGreatDoor
/- Replica: merged. -/
namespace Go.Proofs.YtcfbgelhggapjaaGreatDoor
open Go.RowKit Go.Shelf
theorem c_insNone (p : Option Addr) (cap : Nat) (fv : Value) (w : World) : Calls Tryz.prog 108 #[.slice p 0 cap, .int .i64 0, .int .i64 0, fv] w fun e w' => e = .returned (.tuple #[]) ∧ w' = w := by
  go_enter Tryz.func108, Tryz.ntmps108
  go_wp2
  go_loopg [8] 0 (fun _ s wr => s = .int .i64 1 ∧ wr = w)
  case atStart => exact ⟨rfl, rfl⟩
  case round =>
    obtain ⟨rfl, rfl⟩ := hrel
    go_wp2
    go_end0
    exact ⟨rfl, rfl⟩
set_option maxRecDepth 100000 in
theorem c_stableNone (p : Option Addr) (cap : Nat) (fv : Value) (w : World) : Calls Tryz.prog 106 #[.slice p 0 cap, .int .i64 0, fv] w fun e w' => e = .returned (.tuple #[]) ∧ w' = w := by
  have hc := c_insNone p cap fv
  go_enter Tryz.func106, Tryz.ntmps106
  go_wp2
  go_loopg [7, 8] 0 (fun _ s t wr => s = .int .i64 0 ∧ t = .int .i64 20 ∧ wr = w)
  case atStart => exact ⟨rfl, rfl, rfl⟩
  case round =>
    obtain ⟨rfl, rfl, rfl⟩ := hrel
    go_wp2_with (go_at_call 108; refine (hc _).mono ?_; rintro e w1 ⟨rfl, rfl⟩)
    go_loopg [6, 7, 8, 9] 0 (fun _ s _ _ _ wr => s = .int .i64 20 ∧ wr = w1)
    case atStart => exact ⟨rfl, rfl⟩
    case round =>
      obtain ⟨rfl, rfl⟩ := hrel
      go_wp2
      go_end0
      exact ⟨rfl, rfl⟩
theorem c_sortStableNone (p : Option Addr) (cap : Nat) (fv : Value) (w : World) : Calls Tryz.prog 89 #[.slice p 0 cap, fv] w fun e w' => e = .returned (.tuple #[]) ∧ w' = w := by
  have hc := c_stableNone p cap fv w
  go_enter Tryz.func89, Tryz.ntmps89
  go_wp2_with (go_at_call 106; refine hc.mono ?_; rintro e w1 ⟨rfl, rfl⟩)
  go_end0
  exact ⟨rfl, rfl⟩
theorem c_sortAny (l : List Rc) (A : Option Addr) (cap base : Nat) (w : World) (hl : l.length ≤ 1000000) (h : w.ownsRow base 49 7 (.slice A l.length cap) l.length (l.flatMap cR)) :
    Calls Tryz.prog 89 #[.slice A l.length cap, .func (.func 51) #[] #[]] w fun e w' => e = .returned (.tuple #[]) ∧ ∃ s : List Rc, s.Perm l ∧ s.Pairwise (fun a b => lsB b a = false) ∧ w'.ownsRow base 49 7 (.slice A l.length cap) l.length (s.flatMap cR) ∧ Below base w w' := by
  have h' := h
  rcases h.2 with ⟨h1, h2⟩ | ⟨g, cap', cur, h1, h2, _⟩
  · have hl0 : l = [] := List.eq_nil_of_length_eq_zero h2
    subst hl0
    simp only [Value.slice.injEq, List.length_nil, true_and] at h1
    obtain ⟨rfl, rfl⟩ := h1
    refine (c_sortStableNone none 0 _ w).mono ?_
    rintro e w' ⟨rfl, rfl⟩
    exact ⟨rfl, [], .refl _, .nil, h', Below.refl _ _⟩
  · simp only [Value.slice.injEq, true_and] at h1
    obtain ⟨rfl, rfl⟩ := h1
    exact c_sortStable l base g cap w hl h'
set_option maxRecDepth 100000 in
set_option maxHeartbeats 8000000 in
theorem c_pmerged (A B : Option Addr) (n c m d : Nat) (la lb : List Rc) (w : World) (hn : n ≤ 1000) (hm : m ≤ 1000) (hr : SlR w w.heap.size 7 A n (la.flatMap cR)) (hs : SlR w w.heap.size 7 B m (lb.flatMap cR)) :
    Calls Tryz.prog 63 #[.slice A n c, .slice B m d, .func (.func 51) #[] #[]] w fun e w' => ∃ v s, e = .returned v ∧ s.Perm (la ++ lb) ∧ s.Pairwise (fun a b => lsB b a = false) ∧ w'.ownsRow w.heap.size 49 7 v (cpL s).length ((cpL s).flatMap cR) ∧ Below w.heap.size w w' := by
  have hb0 := balloc (Below.refl w.heap.size w) (.cells #[.slice A n c, .slice B m d] 23)
  have gS := Blk.new w 23 [.slice A n c, .slice B m d]
  have hc := c_sConcat A B n c m d la lb w.heap.size _ hn hm (gS.cell 0) (gS.cell 1) (hr.to' hb0) (hs.to' hb0)
  have hlen : (la ++ lb).length ≤ 2000 := by rw [List.length_append, hr.lenR, hs.lenR]; omega
  have HB := hide hb0
  clear hr hs hb0 gS
  generalize la ++ lb = l at *
  have HLn := hide hlen
  clear hlen
  go_enter Tryz.func63, Tryz.ntmps63
  go_wp2_with fail
  refine hc.mono ?_
  clear hc
  rintro e w1 ⟨v, rfl, hown, hb1⟩
  obtain ⟨A1, c1, rfl, h11, h12, -⟩ := SlR.of_own hown
  have hsrt := c_sortAny l A1 c1 _ w1 (by have := HLn.out; omega) hown
  have HB1 := hide (bthen HB.out hb1)
  clear hown hb1
  obtain ⟨N, hN⟩ : ∃ N, N = l.length := ⟨_, rfl⟩
  rw [← hN] at hsrt h11 ⊢
  have HN := hide hN
  clear hN
  go_wp2_with fail
  refine hsrt.mono ?_
  clear hsrt
  rintro e w2 ⟨rfl, s, hp, hss, hown2, hb2⟩
  have hsl : s.length = N := by rw [hp.length_eq]; exact HN.out.symm
  rw [← hsl] at hown2
  have hcc := c_sCompact s A1 c1 _ w2 (by have := HLn.out; have := HN.out; omega) hown2
  rw [hsl] at hcc
  have HP := hide (And.intro hp (And.intro hss hb2))
  clear hp hss hb2 hown2 hsl
  go_wp2_with fail
  refine hcc.mono ?_
  clear hcc
  rintro e w3 ⟨v3, rfl, hown3, hb3⟩
  have HO := hide (And.intro hown3 hb3)
  clear hown3 hb3
  go_wp2
  go_ret
  obtain ⟨h1, h2, h3⟩ := HP.out
  obtain ⟨h4, h5⟩ := HO.out
  have hsz := HB1.out.size
  refine ⟨v3, s, rfl, h1, h2, own_mono h4 (by simp), (HB1.out.trans (h3.mono (by simp))).trans (h5.mono (by simp))⟩
end Go.Proofs.YtcfbgelhggapjaaGreatDoor
/- Replica: the books' sound and root. -/
namespace Go.Proofs.YtcfbgelhggapjaaGreatDoor
open Go.RowKit Go.Shelf
def soF (l : List Rc) (r : Rc) : Bool := rootB r || match fdR (tgt r) l with | some o => bfB o r | none => false
theorem soF_eq {l : List Rc} (hn : (l.map keyR).Nodup) (r : Rc) : soF l r = soB l r := by
  unfold soF
  cases hr : rootB r with
  | true => unfold soB; rw [hr]; rfl
  | false => rw [so_find hn hr]; cases fdR (tgt r) l <;> rfl
theorem rootB_tgt (r : Rc) : rootB r = decide (tgt r = ((-1 : Int), (0 : Int))) := by
  unfold rootB tgt
  simp
set_option linter.unusedSimpArgs false in
set_option maxRecDepth 100000 in
set_option maxHeartbeats 8000000 in
theorem c_bsound (b : Nat) (l : List Rc) (r : Rc) (w : World) (hbk : BK w b l) (hR : RL w) :
    Calls Tryz.prog 53 #[.map (some b), rcV r] w fun e w' => e = .returned (.bool (soF l r)) ∧ Below w.heap.size w w' := by
  have hb0 := balloc (Below.refl w.heap.size w) (.cells #[.int .i64 r.pen, .int .i64 r.num, .int .i64 r.at_, .int .i64 r.of, .int .i64 r.which, .int .i64 r.kind, .string r.text] 49)
  have hT := c_ptarget r (w.alloc (.cells #[.int .i64 r.pen, .int .i64 r.num, .int .i64 r.at_, .int .i64 r.of, .int .i64 r.which, .int .i64 r.kind, .string r.text] 49))
  have gS := Blk.new w 49 (cR r)
  obtain ⟨so, hso⟩ : ∃ so, so = soF l r := ⟨_, rfl⟩
  rw [← hso]
  have HSo : Hid (so = (rootB r || match fdR (tgt r) l with | some o => bfB o r | none => false)) := hide hso
  clear hso
  obtain ⟨L, him, hL⟩ := hbk
  have hlk := hL (tgt r)
  have hblt := him.lt
  have hbef := fun (o : Rc) (q : World) => c_pbefore o r q
  have hT2 := fun (q : World) => c_ptarget r q
  have HRt := hide (rootB_tgt r)
  obtain ⟨p, n, t, o, wh, k, tx⟩ := r
  unfold rcV kV tgt at hT hT2
  unfold rcV at hbef ⊢
  dsimp only at hT hT2 hb0 hbef
  unfold tgt at hlk HRt HSo
  dsimp only at hlk HRt HSo
  have HX : Hid (∀ W, Below w.heap.size w W → RL W ∧ (w.heap.size < W.heap.size → True)) := hide (fun W h => ⟨hR.to' h, fun _ => trivial⟩)
  -- what the book tells
  have HV : Hid (∃ (v : Value) (f : Bool) (s : Rc), v = rcV s ∧ Value.tuple #[(L.lookup (o, wh)).getD zV, .bool (L.lookup (o, wh)).isSome] = .tuple #[v, .bool f] ∧ (match fdR (o, wh) l with | some o' => bfB o' ⟨p, n, t, o, wh, k, tx⟩ | none => false) = (f && bfB s ⟨p, n, t, o, wh, k, tx⟩)) := hide (by
    cases hf : fdR (o, wh) l with
    | none => exact ⟨zV, false, zRc, rfl, by rw [hlk, hf]; rfl, rfl⟩
    | some s => exact ⟨rcV s, true, s, rfl, by rw [hlk, hf]; rfl, by simp⟩)
  clear hL hlk
  obtain ⟨v, f, s, rfl, hv, hm⟩ := HV.out
  have HM := hide hm
  have HVV := hide hv
  clear hv hm HV
  obtain ⟨p2, n2, t2, o2, wh2, k2, tx2⟩ := s
  go_enter Tryz.func53, Tryz.ntmps53
  unfold rcV at HVV
  dsimp only at HVV
  go_wp2_with (first | (refine hT.mono ?_; clear hT; rintro e w1 ⟨rfl, hb1⟩; have him1 := him.below (bthen hb0 hb1) hblt) | (at_lookup; refine wpList_lookup_im rfl _ _ 79 true rfl 70 49 zV Tryz.underlying79 keyP (zvRec _) rfl him1 (o, wh) rfl _ HVV.out ?_))
  generalize hW : w1.alloc (.cells #[.int .i64 p2, .int .i64 n2, .int .i64 t2, .int .i64 o2, .int .i64 wh2, .int .i64 k2, .string tx2] 49) = W
  have hbW : Below w.heap.size w W := by rw [← hW]; exact balloc (bthen hb0 hb1) _
  have gO : Blk W w1.heap.size 49 (cR ⟨p2, n2, t2, o2, wh2, k2, tx2⟩) := by rw [← hW]; exact Blk.new w1 49 (cR ⟨p2, n2, t2, o2, wh2, k2, tx2⟩)
  have gS2 : Blk W w.heap.size 49 (cR ⟨p, n, t, o, wh, k, tx⟩) := by rw [← hW]; exact (gS.below hb1 gS.lt).alloc _
  obtain ⟨v0, v1⟩ := (HX.out W hbW).1.bw
  obtain ⟨u0, u1, u2, u3, u4, u5, u6⟩ := gO.bwR
  obtain ⟨z0, z1, z2, z3, z4, z5, z6⟩ := gS2.bwR
  dsimp only at z0 z1 z2 z3 z4 z5 z6 u0 u1 u2 u3 u4 u5 u6
  have hg1 := gO.lt
  have hg2 := gS2.lt
  have HB := hide hbW
  have hcT := fun q : BW W => hT2 q.val
  have hcB := fun q : BW W => (hbef ⟨p2, n2, t2, o2, wh2, k2, tx2⟩ q.val).mono fun e w' (h : e = .returned (.int .i64 (bfZ ⟨p2, n2, t2, o2, wh2, k2, tx2⟩ ⟨p, n, t, o, wh, k, tx⟩)) ∧ GW q.val w') => (⟨h.1, h.2.below⟩ : e = .returned (.int .i64 (bfZ ⟨p2, n2, t2, o2, wh2, k2, tx2⟩ ⟨p, n, t, o, wh, k, tx⟩)) ∧ Below q.val.heap.size q.val w')
  dsimp only at hcB
  have HZ := hide (@bfZ_neg ⟨p2, n2, t2, o2, wh2, k2, tx2⟩ ⟨p, n, t, o, wh, k, tx⟩)
  generalize bfZ ⟨p2, n2, t2, o2, wh2, k2, tx2⟩ ⟨p, n, t, o, wh, k, tx⟩ = Z at *
  generalize bfB ⟨p2, n2, t2, o2, wh2, k2, tx2⟩ ⟨p, n, t, o, wh, k, tx⟩ = BB at *
  clear hW hb0 hb1 gS gO gS2 hbW hT2 hbef him1 him HX
  by_cases hr : (o, wh) = ((-1 : Int), (0 : Int))
  · have hq : ∀ w, (binOp .eql 70 (.agg #[.int .i64 o, .int .i64 wh]) (.agg #[.int .i64 (-1), .int .i64 0])).run Tryz.prog w = .ok (.bool true) w := fun w => by rw [eqlKy w (o, wh) (-1, 0), decide_eq_true hr]
    have HE := hide (show so = true by rw [HSo.out, HRt.out, decide_eq_true hr]; rfl)
    clear hr HRt HSo
    refine wp_region_bw W (Below.refl _ _) (by kernel_rfl) (by kernel_rfl) ?_
    repeat (go_big_quiet_step ((go_at_call 85; exact bw_call (hcT _))))
    refine wpQuiet_nil ?_
    intro W2 hb2
    go_wp2_with fail
    go_ret
    exact ⟨ret_bool HE.out.symm, bthen HB.out hb2⟩
  · have hq : ∀ w, (binOp .eql 70 (.agg #[.int .i64 o, .int .i64 wh]) (.agg #[.int .i64 (-1), .int .i64 0])).run Tryz.prog w = .ok (.bool false) w := fun w => by rw [eqlKy w (o, wh) (-1, 0), decide_eq_false hr]
    have HE := hide (show so = (f && BB) by rw [HSo.out, HRt.out, decide_eq_false hr, HM.out]; rfl)
    clear hr HRt HSo HM
    cases f with
    | false =>
      refine wp_region_bw W (Below.refl _ _) (by kernel_rfl) (by kernel_rfl) ?_
      repeat (go_big_quiet_step ((go_at_call 85; exact bw_call (hcT _))))
      refine wpQuiet_nil ?_
      intro W2 hb2
      go_wp2_with fail
      go_ret
      exact ⟨ret_bool (by rw [HE.out]; rfl), bthen HB.out hb2⟩
    | true =>
      by_cases hz : Z < 0
      · have HBB := hide (show BB = true from HZ.out.1 hz)
        refine wp_region_bw W (Below.refl _ _) (by kernel_rfl) (by kernel_rfl) ?_
        repeat (go_big_quiet_step (first | (go_at_call 85; exact bw_call (hcT _)) | (go_at_call 46; exact bw_call (hcB _))))
        refine wpQuiet_nil ?_
        intro W2 hb2
        go_wp2_with fail
        go_ret
        exact ⟨ret_bool (by rw [HE.out, HBB.out]; first | rfl | simp), bthen HB.out hb2⟩
      · have HBB := hide (show BB = false by
          cases hBB : BB with
          | false => rfl
          | true => exact absurd (HZ.out.2 hBB) hz)
        have hz' : decide (Z < 0) = false := decide_eq_false hz
        refine wp_region_bw W (Below.refl _ _) (by kernel_rfl) (by kernel_rfl) ?_
        repeat (go_big_quiet_step (first | (go_at_call 85; exact bw_call (hcT _)) | (go_at_call 46; exact bw_call (hcB _))))
        refine wpQuiet_nil ?_
        intro W2 hb2
        go_wp2_with fail
        go_ret
        exact ⟨ret_bool (by rw [HE.out, HBB.out]; first | rfl | simp), bthen HB.out hb2⟩
end Go.Proofs.YtcfbgelhggapjaaGreatDoor
/- Replica: slices.IndexFunc and slices.ContainsFunc at records; the root of a record. -/
namespace Go.Proofs.YtcfbgelhggapjaaGreatDoor
open Go.RowKit Go.Shelf
/-- the index of the first element that meets p, from k on -/
def idxF {α : Type} (p : α → Bool) : List α → Nat → Int
  | [], _ => -1
  | x :: l, k => if p x then k else idxF p l (k + 1)
theorem idxF_cases {α : Type} (p : α → Bool) : ∀ (l : List α) (k : Nat), (idxF p l k = -1 ∧ l.any p = false ∧ l.find? p = none) ∨ (∃ (j : Nat) (h : j < l.length), idxF p l k = (k + j : Nat) ∧ l.any p = true ∧ l.find? p = some l[j] ∧ p l[j] = true ∧ ∀ i (hi : i < j), p (l[i]'(by omega)) = false)
  | [], k => .inl ⟨rfl, rfl, rfl⟩
  | x :: l, k => by
    by_cases hx : p x = true
    · exact .inr ⟨0, by simp, by simp [idxF, hx], by simp [hx], by simp [hx], by simpa using hx, fun i hi => absurd hi (by omega)⟩
    · have hx' : p x = false := by simpa using hx
      rcases idxF_cases p l (k + 1) with ⟨h1, h2, h3⟩ | ⟨j, hj, h1, h2, h3, h4, h5⟩
      · exact .inl ⟨by simp [idxF, hx', h1], by simp [hx', h2], by simp [hx', h3]⟩
      · refine .inr ⟨j + 1, by simpa using hj, by simp only [idxF, hx', Bool.false_eq_true, if_false, h1]; congr 1; omega, by simp [hx', h2], by simp [hx', h3], by simpa using h4, fun i hi => ?_⟩
        cases i with
        | zero => simpa using hx'
        | succ i => simpa using h5 i (by omega)
/-- a predicate on records that makes memory of its own alone -/
def PI (P : Program) (g : Nat) (lb : Array Value) (p : Rc → Bool) (w : World) : Prop :=
  ∀ (W : World) (s : Rc), Below w.heap.size w W → Calls P g (#[rcV s] ++ lb) W fun e w' => e = .returned (.bool (p s)) ∧ Below w.heap.size w w'
theorem c_sIndex (p : Rc → Bool) (g : Nat) (lb : Array Value) (eg : ∀ args w, (callFunc g args).run Tryz.prog w = .ok (.enter g args) w) (A : Option Addr) (n c : Nat) (l : List Rc) (w : World) (hn : n ≤ 9223372036854775807)
    (hp : PI Tryz.prog g lb p w) (hr : SlR w w.heap.size 7 A n (l.flatMap cR)) :
    Calls Tryz.prog 86 #[.slice A n c, .func (.func g) #[] lb] w fun e w' => e = .returned (.int .i64 (idxF p l 0)) ∧ Below w.heap.size w w' := by
  have hl := hr.lenR
  have HL := hide hl
  go_enter Tryz.func86, Tryz.ntmps86
  go_wp2
  go_loopw [5, 8] (fun _ i wr => ∃ k : Nat, k ≤ n ∧ i = .int .i64 k ∧ Hid (idxF p (l.drop k) k = idxF p l 0) ∧ Below w.heap.size w wr) (fun _ i _ => n - (intOf i).toNat)
  case atStart => exact ⟨0, Nat.zero_le _, rfl, rfl, Below.refl _ _⟩
  case round =>
    obtain ⟨k, hk, rfl, ho, hb⟩ := hrel
    by_cases hlt : k < n
    · have hkl : k < l.length := by omega
      obtain ⟨b, off, rfl, hbb⟩ := hr.some_of (by omega)
      obtain ⟨-, hx0, hx1, hx2, hx3, hx4, hx5, hx6⟩ := hr.cellsR hb hkl
      have hd : l.drop k = l[k] :: l.drop (k + 1) := List.drop_eq_getElem_cons hkl
      have HO := hide (show idxF p (l[k] :: l.drop (k + 1)) k = idxF p l 0 by rw [← hd]; exact ho.out)
      have hcall := hp wr l[k] hb
      clear ho hd hr hp hl
      generalize l[k] = s at *
      have hlt' : (k : Int) < (n : Int) := by omega
      cases hq : p s with
      | true =>
        rw [hq] at hcall
        have HQ := hide hq
        clear hq
        unfold rcV at hcall
        go_wp2_with (go_at_fn g; refine hcall.mono ?_; rintro e w' ⟨rfl, hb'⟩)
        go_ret
        have h := HO.out
        exact ⟨ret_int (by rw [← h, idxF, if_pos HQ.out]), hb'⟩
      | false =>
        rw [hq] at hcall
        have HQ := hide hq
        clear hq
        unfold rcV at hcall
        go_wp2_with (go_at_fn g; refine hcall.mono ?_; rintro e w' ⟨rfl, hb'⟩)
        go_roundw
        case rel =>
          have h := HO.out
          exact ⟨k + 1, by omega, by go_num, hide (by rw [← h, idxF, if_neg (by rw [HQ.out]; decide)]), hb'⟩
        case measure => simp [intOf]; omega
    · have HO := hide ho.out
      clear ho hr hp hl
      go_wp2
      go_ret
      have h := HO.out
      rw [List.drop_eq_nil_of_le (by have := HL.out; omega)] at h
      exact ⟨ret_int h, hb⟩
theorem c_sContains (p : Rc → Bool) (g : Nat) (lb : Array Value) (eg : ∀ args w, (callFunc g args).run Tryz.prog w = .ok (.enter g args) w) (A : Option Addr) (n c : Nat) (l : List Rc) (w : World) (hn : n ≤ 9223372036854775807)
    (hp : PI Tryz.prog g lb p w) (hr : SlR w w.heap.size 7 A n (l.flatMap cR)) :
    Calls Tryz.prog 54 #[.slice A n c, .func (.func g) #[] lb] w fun e w' => e = .returned (.bool (l.any p)) ∧ Below w.heap.size w w' := by
  have hcall := c_sIndex p g lb eg A n c l w hn hp hr
  have hc := idxF_cases p l 0
  clear hp hr eg
  rcases hc with ⟨h1, h2, _⟩ | ⟨j, hj, h1, h2, h3, h4⟩
  · rw [h1] at hcall
    rw [h2]
    clear h1 h2
    go_enter Tryz.func54, Tryz.ntmps54
    go_wp2_with (go_at_call 86; refine hcall.mono ?_; rintro e w' ⟨rfl, hb⟩)
    go_ret
    exact ⟨rfl, hb⟩
  · rw [h1] at hcall
    rw [h2]
    clear h1 h2 h3 h4 hj
    generalize 0 + j = q at *
    go_enter Tryz.func54, Tryz.ntmps54
    go_wp2_with (go_at_call 86; refine hcall.mono ?_; rintro e w' ⟨rfl, hb⟩)
    go_ret
    exact ⟨ret_bool (by simp), hb⟩
theorem Blk.allFr {w : World} {g : Nat} {t : TypeId} {cs : List Value} (h : Blk w g t cs) : w.frozen? ⟨g, 0, none⟩ = false ∧ w.frozen? ⟨g, 1, none⟩ = false ∧ w.frozen? ⟨g, 2, none⟩ = false ∧ w.frozen? ⟨g, 3, none⟩ = false ∧ w.frozen? ⟨g, 4, none⟩ = false ∧ w.frozen? ⟨g, 5, none⟩ = false ∧ w.frozen? ⟨g, 6, none⟩ = false := ⟨h.free 0, h.free 1, h.free 2, h.free 3, h.free 4, h.free 5, h.free 6⟩
theorem Blk.store7 {w : World} {g : Nat} {t : TypeId} {s : Rc} (h : Blk w g t (cR s)) (x : Rc) :
    Blk (((((((w.setCell ⟨g, 0, none⟩ (.int .i64 x.pen)).setCell ⟨g, 1, none⟩ (.int .i64 x.num)).setCell ⟨g, 2, none⟩ (.int .i64 x.at_)).setCell ⟨g, 3, none⟩ (.int .i64 x.of)).setCell ⟨g, 4, none⟩ (.int .i64 x.which)).setCell ⟨g, 5, none⟩ (.int .i64 x.kind)).setCell ⟨g, 6, none⟩ (.string x.text)) g t (cR x) :=
  ((((((h.set 0 (.int .i64 x.pen)).set 1 (.int .i64 x.num)).set 2 (.int .i64 x.at_)).set 3 (.int .i64 x.of)).set 4 (.int .i64 x.which)).set 5 (.int .i64 x.kind)).set 6 (.string x.text)
theorem key_of_root {l : List Rc} {r s : Rc} (hs : rootB s = true) (e : rootR l s = rootR l r) : s = rootR l r := by rw [← e, root_self hs]
set_option linter.unusedSimpArgs false in
set_option maxRecDepth 100000 in
set_option maxHeartbeats 8000000 in
theorem c_broot (b : Nat) (l : List Rc) (r : Rc) (w : World) (hV : VL l) (hr : r ∈ l) (hbk : BK w b l) (hR : RL w) :
    Calls Tryz.prog 59 #[.map (some b), rcV r] w fun e w' => e = .returned (kV (keyR (rootR l r))) ∧ Below w.heap.size w w' := by
  have hb0 := balloc (balloc (Below.refl w.heap.size w) (.cells #[.int .i64 r.pen, .int .i64 r.num, .int .i64 r.at_, .int .i64 r.of, .int .i64 r.which, .int .i64 r.kind, .string r.text] 49)) (.cells #[.int .i64 0, .int .i64 0] 70)
  have HV := hide hV
  have HR := hide hR
  have HK := hide hbk
  have hblt := hbk.lt
  have gS := (Blk.new w 49 (cR r)).alloc (.cells #[.int .i64 0, .int .i64 0] 70)
  have gZ := Blk.new (w.alloc (.cells (cR r).toArray 49)) 70 [.int .i64 0, .int .i64 0]
  rw [show (w.alloc (.cells (cR r).toArray 49)).heap.size = w.heap.size + 1 from by simp] at gZ
  have HRm := hide hr
  have H0 := hide (And.intro gS (And.intro gZ hb0))
  clear hV hR hbk hr gS gZ hb0
  unfold rcV
  go_enter Tryz.func59, Tryz.ntmps59
  go_wp2_with fail
  go_loopg [5] (rank l r) (fun kx _ wr => ∃ s : Rc, Hid (s ∈ l ∧ rootR l s = rootR l r) ∧ rank l s ≤ kx ∧ Blk wr w.heap.size 49 (cR s) ∧ Blk wr (w.heap.size + 1) 70 [.int .i64 0, .int .i64 0] ∧ Below w.heap.size w wr)
  case atStart => exact ⟨r, ⟨HRm.out, rfl⟩, Nat.le_refl _, H0.out.1, H0.out.2.1, H0.out.2.2⟩
  case round =>
    clear H0
    obtain ⟨s, HS, hkx, gS, gZ, hb⟩ := hrel
    have HRw := hide (HR.out.to' hb)
    have HKw := hide (HK.out.below hb hblt)
    obtain ⟨v0, v1⟩ := HRw.out.bw
    obtain ⟨z0, z1, z2, z3, z4, z5, z6⟩ := gS.bwR
    have hcT := fun q : BW wr => c_ptarget s q.val
    have hg1 := gS.lt
    have hg2 := gZ.lt
    have hv0 := HRw.out.lt
    have HG := hide (And.intro gS (And.intro gZ hb))
    have HRt := hide (rootB_tgt s)
    have HFd : Hid (rootB s = false → ∃ o, o ∈ l ∧ fdR (tgt s) l = some o ∧ rootR l o = rootR l r ∧ rank l o < rank l s) := hide (fun hn => by
      obtain ⟨o, h1, h2, _, h4⟩ := HV.out.tgt HS.out.1 hn
      exact ⟨o, h1, h2, (root_step HV.out HS.out.1 hn h2).symm.trans HS.out.2, rank_lt h1 h4⟩)
    have HKy := hide (fun hs => key_of_root hs HS.out.2)
    have hT2 := fun (q : World) => c_ptarget s q
    have hK2 := fun (q : World) => c_pkeyOf s q
    clear gS gZ hb
    obtain ⟨p, n, t, o, wh, k, tx⟩ := s
    unfold rcV kV tgt at hcT hT2
    unfold rcV kV keyR at hK2
    unfold tgt at HRt HFd
    dsimp only at hcT hT2 hK2 HRt HFd z0 z1 z2 z3 z4 z5 z6
    by_cases hrt : (o, wh) = ((-1 : Int), (0 : Int))
    · have hq : ∀ w, (binOp .neq 70 (.agg #[.int .i64 o, .int .i64 wh]) (.agg #[.int .i64 (-1), .int .i64 0])).run Tryz.prog w = .ok (.bool false) w := fun w => by rw [neqKy w (o, wh) (-1, 0), decide_eq_true hrt]; rfl
      have HE := hide (HKy.out (by rw [HRt.out, decide_eq_true hrt]))
      clear hrt HRt HFd HKy hkx
      go_wp2_with fail
      refine wp_region_bw wr (Below.refl _ _) (by kernel_rfl) (by kernel_rfl) ?_
      repeat (go_big_quiet_step ((go_at_call 85; exact bw_call (hcT _))))
      refine wpQuiet_nil ?_
      intro w2 hb2
      obtain ⟨gS, gZ, hb⟩ := HG.out
      obtain ⟨y0, y1, y2, y3, y4, y5, y6⟩ := (gS.below hb2 hg1).allR
      dsimp only at y0 y1 y2 y3 y4 y5 y6
      have gZ2 := gZ.below hb2 hg2
      have hb02 := bthen hb hb2
      have hg12 := (gS.below hb2 hg1).lt
      have HG2 := hide (And.intro gZ2 hb02)
      clear gS gZ hb gZ2 hb02 HG z0 z1 z2 z3 z4 z5 z6 v0 v1 hb2 hT2 hcT
      go_wp2_with (refine (hK2 _).mono ?_; rintro e w3 ⟨rfl, hb3⟩; have gZ3 := HG2.out.1.below hb3 HG2.out.1.lt; obtain ⟨q0, q1, q2, q3⟩ := gZ3.all2; have hg13 := gZ3.lt; have HG3 := hide (bthen HG2.out.2 hb3); clear gZ3)
      refine bodyPost_ret (v := .agg #[.int .i64 p, .int .i64 n]) (by simp [results, Tryz.results59, go_sem, q0, q1]) rfl ⟨?_, (HG3.out.setCell (by simp) _).setCell (by simp) _⟩
      rw [← HE.out]; rfl
    · have hq : ∀ w, (binOp .neq 70 (.agg #[.int .i64 o, .int .i64 wh]) (.agg #[.int .i64 (-1), .int .i64 0])).run Tryz.prog w = .ok (.bool true) w := fun w => by rw [neqKy w (o, wh) (-1, 0), decide_eq_false hrt]; rfl
      have HE := hide (HFd.out (by rw [HRt.out, decide_eq_false hrt]))
      clear hrt HRt HFd HKy
      obtain ⟨o2, ho1, ho2, ho3, ho4⟩ := HE.out
      have HO := hide (And.intro ho1 (And.intro ho3 ho4))
      clear HE
      obtain ⟨L, him, hL⟩ := HKw.out
      have HV2 : Hid ((L.lookup (o, wh)).getD zV = rcV o2) := hide (by rw [hL, ho2]; rfl)
      clear ho1 ho2 ho3 ho4 hL
      unfold rcV at HV2
      go_wp2_with fail
      refine wp_region_bw wr (Below.refl _ _) (by kernel_rfl) (by kernel_rfl) ?_
      repeat (go_big_quiet_step ((go_at_call 85; exact bw_call (hcT _))))
      refine wpQuiet_nil ?_
      intro w2 hb2
      obtain ⟨gS, gZ, hb⟩ := HG.out
      obtain ⟨y0, y1, y2, y3, y4, y5, y6⟩ := (gS.below hb2 hg1).allR
      dsimp only at y0 y1 y2 y3 y4 y5 y6
      have him2 := him.below hb2 (Nat.lt_of_lt_of_le hblt hb.size)
      have hg12 := (gS.below hb2 hg1).lt
      have HG2 := hide (And.intro (gS.below hb2 hg1) (And.intro (gZ.below hb2 hg2) (bthen hb hb2)))
      have hbw2 : b < w2.heap.size := him2.lt
      clear gS gZ hb HG z0 z1 z2 z3 z4 z5 z6 v0 v1 hb2 hK2 hcT him
      go_wp2_with (first | (refine (hT2 _).mono ?_; rintro e w3 ⟨rfl, hb3⟩; have him3 := him2.below hb3 hbw2; have HG3 := hide (And.intro (HG2.out.1.below hb3 HG2.out.1.lt) (And.intro (HG2.out.2.1.below hb3 HG2.out.2.1.lt) (bthen HG2.out.2.2 hb3))); obtain ⟨f0, f1, f2, f3, f4, f5, f6⟩ := HG3.out.1.allFr; obtain ⟨c0, c1, c2, c3, c4, c5, c6⟩ := HG3.out.1.allR; dsimp only at c0 c1 c2 c3 c4 c5 c6; have hg13 := HG3.out.1.lt) | (at_lookup; refine wpList_lookup_im rfl _ _ 79 false rfl 70 49 zV Tryz.underlying79 keyP (zvRec _) rfl him3 (o, wh) rfl _ HV2.out ?_))
      go_roundg (rank l o2)
      case measure => have := HO.out.2.2; omega
      case rel =>
        obtain ⟨gS, gZ, hb⟩ := HG3.out
        refine ⟨o2, ⟨HO.out.1, HO.out.2.1⟩, Nat.le_refl _, ?_, ?_, ?_⟩
        · exact gS.store7 o2
        · exact (((((((gZ.other (by simp) _).other (by simp) _).other (by simp) _).other (by simp) _).other (by simp) _).other (by simp) _).other (by simp) _)
        · exact (((((((hb.setCell (by simp) _).setCell (by simp) _).setCell (by simp) _).setCell (by simp) _).setCell (by simp) _).setCell (by simp) _).setCell (by simp) _)
end Go.Proofs.YtcfbgelhggapjaaGreatDoor
/- Replica: the package's formed. -/
namespace Go.Proofs.YtcfbgelhggapjaaGreatDoor
open Go.RowKit Go.Shelf
theorem c_penv {n : Int} {b : Bool} (h : inB n 0 39 = b) (w : World) : Calls Tryz.prog 49 #[.int .i64 n] w fun e w' => e = .returned (.bool b) ∧ w = w' := by subst h; exact c_pisPen n w
theorem c_inv {n lo hi : Int} {b : Bool} (h : inB n lo hi = b) (w : World) : Calls Tryz.prog 84 #[.int .i64 n, .int .i64 lo, .int .i64 hi] w fun e w' => e = .returned (.bool b) ∧ w = w' := by subst h; exact c_pisIn n lo hi w
theorem fm_re (s : Rc) : fmB s = ((rootB s || (inB s.of 0 39 && (inB s.which 1 150 && !decide (tgt s = keyR s)))) && (inB s.pen 0 39 && (inB s.num 1 150 && (inB s.at_ 0 1000000 && (inB s.kind 0 15 && decide (s.text.size ≤ 4000)))))) := by
  have : decide (tgt s = keyR s) = (decide (s.of = s.pen) && decide (s.which = s.num)) := by simp [tgt, keyR]
  unfold fmB
  rw [this]
  cases rootB s <;> cases inB s.pen 0 39 <;> cases inB s.num 1 150 <;> cases inB s.at_ 0 1000000 <;> cases inB s.kind 0 15 <;> cases inB s.of 0 39 <;> cases inB s.which 1 150 <;> simp [Bool.and_comm]
set_option linter.unusedSimpArgs false in
set_option linter.unusedVariables false in
set_option maxRecDepth 100000 in
set_option maxHeartbeats 8000000 in
theorem c_pformed (s : Rc) (w : World) (hR : RL w) : Calls Tryz.prog 50 #[rcV s] w fun e w' => e = .returned (.bool (fmB s)) ∧ Below w.heap.size w w' := by
  obtain ⟨p, n, t, o, wh, k, tx⟩ := s
  have hb0 := balloc (Below.refl w.heap.size w) (.cells #[.int .i64 p, .int .i64 n, .int .i64 t, .int .i64 o, .int .i64 wh, .int .i64 k, .string tx] 49)
  have hT := c_ptarget ⟨p, n, t, o, wh, k, tx⟩ (w.alloc (.cells #[.int .i64 p, .int .i64 n, .int .i64 t, .int .i64 o, .int .i64 wh, .int .i64 k, .string tx] 49))
  have gS := Blk.new w 49 (cR ⟨p, n, t, o, wh, k, tx⟩)
  unfold rcV
  unfold rcV kV tgt at hT
  dsimp only at hT
  go_enter Tryz.func50, Tryz.ntmps50
  go_wp2_with (refine hT.mono ?_; clear hT; rintro e w1 ⟨rfl, hb1⟩)
  generalize hW : w1.alloc (.cells #[.int .i64 o, .int .i64 wh] 70) = W at *
  have hbW : Below w.heap.size w W := by rw [← hW]; exact balloc (bthen hb0 hb1) _
  have gT : Blk W w1.heap.size 70 [.int .i64 o, .int .i64 wh] := by rw [← hW]; exact Blk.new w1 70 [.int .i64 o, .int .i64 wh]
  have gS2 : Blk W w.heap.size 49 (cR ⟨p, n, t, o, wh, k, tx⟩) := by rw [← hW]; exact (gS.below hb1 gS.lt).alloc _
  obtain ⟨v0, v1⟩ := (hR.to' hbW).bw
  obtain ⟨u0, u1⟩ := gT.bw2
  obtain ⟨z0, z1, z2, z3, z4, z5, z6⟩ := gS2.bwR
  dsimp only at z0 z1 z2 z3 z4 z5 z6
  have hgT := gT.lt
  have hgS := gS2.lt
  have HG := hide (And.intro gS2 hbW)
  have hK := fun q : BW W => c_pkeyOf ⟨p, n, t, o, wh, k, tx⟩ q.val
  unfold rcV kV keyR at hK
  dsimp only at hK
  clear hW hb0 hb1 gS gT gS2 hbW hR
  by_cases hr : (o, wh) = ((-1 : Int), (0 : Int))
  · have hq : ∀ w, (binOp .eql 70 (.agg #[.int .i64 o, .int .i64 wh]) (.agg #[.int .i64 (-1), .int .i64 0])).run Tryz.prog w = .ok (.bool true) w := fun w => by rw [eqlKy w (o, wh) (-1, 0), decide_eq_true hr]
    have HRight : Hid ((rootB ⟨p, n, t, o, wh, k, tx⟩ || (inB o 0 39 && (inB wh 1 150 && !decide (tgt ⟨p, n, t, o, wh, k, tx⟩ = keyR ⟨p, n, t, o, wh, k, tx⟩)))) = true) := hide (by
      simp only [Prod.mk.injEq] at hr
      unfold rootB; simp [hr.1, hr.2])
    clear hr
    cases h0 : inB p 0 39 with
    | false =>
      have HE : Hid (fmB ⟨p, n, t, o, wh, k, tx⟩ = false) := hide (by rw [fm_re]; dsimp only; rw [HRight.out]; simp [h0])
      clear HRight
      refine wp_region_bw W (Below.refl _ _) (by kernel_rfl) (by kernel_rfl) ?_
      repeat (go_big_quiet_step (first | (go_at_call 49; exact bw_same (c_penv ho _)) | (go_at_call 84; exact bw_same (c_inv hw _)) | (go_at_call 68; exact bw_call (hK _))))
      refine wpQuiet_nil ?_
      intro W2 hb2
      obtain ⟨y0, y1, y2, y3, y4, y5, y6⟩ := (HG.out.1.below hb2 HG.out.1.lt).allR
      dsimp only at y0 y1 y2 y3 y4 y5 y6
      have hy := (HG.out.1.below hb2 HG.out.1.lt).lt
      have hbE := hide (bthen HG.out.2 hb2)
      clear z0 z1 z2 z3 z4 z5 z6 u0 u1 v0 v1 hb2 HG
      go_wp2_with (first | (go_at_call 49; with_reducible refine (c_penv h0 _).mono ?_; rintro e w9 ⟨rfl, rfl⟩))
      go_ret
      exact ⟨ret_bool (by first | exact HE.out.symm | (rw [HE.out]; simp; done) | (rw [HE.out]; simp; omega)), hbE.out⟩
    | true =>
      cases h1 : inB n 1 150 with
      | false =>
        have HE : Hid (fmB ⟨p, n, t, o, wh, k, tx⟩ = false) := hide (by rw [fm_re]; dsimp only; rw [HRight.out]; simp [h0, h1])
        clear HRight
        refine wp_region_bw W (Below.refl _ _) (by kernel_rfl) (by kernel_rfl) ?_
        repeat (go_big_quiet_step (first | (go_at_call 49; exact bw_same (c_penv ho _)) | (go_at_call 84; exact bw_same (c_inv hw _)) | (go_at_call 68; exact bw_call (hK _))))
        refine wpQuiet_nil ?_
        intro W2 hb2
        obtain ⟨y0, y1, y2, y3, y4, y5, y6⟩ := (HG.out.1.below hb2 HG.out.1.lt).allR
        dsimp only at y0 y1 y2 y3 y4 y5 y6
        have hy := (HG.out.1.below hb2 HG.out.1.lt).lt
        have hbE := hide (bthen HG.out.2 hb2)
        clear z0 z1 z2 z3 z4 z5 z6 u0 u1 v0 v1 hb2 HG
        go_wp2_with (first | (go_at_call 49; with_reducible refine (c_penv h0 _).mono ?_; rintro e w9 ⟨rfl, rfl⟩) | (go_at_call 84; with_reducible refine (c_inv h1 _).mono ?_; rintro e w9 ⟨rfl, rfl⟩))
        go_ret
        exact ⟨ret_bool (by first | exact HE.out.symm | (rw [HE.out]; simp; done) | (rw [HE.out]; simp; omega)), hbE.out⟩
      | true =>
        cases h2 : inB t 0 1000000 with
        | false =>
          have HE : Hid (fmB ⟨p, n, t, o, wh, k, tx⟩ = false) := hide (by rw [fm_re]; dsimp only; rw [HRight.out]; simp [h0, h1, h2])
          clear HRight
          refine wp_region_bw W (Below.refl _ _) (by kernel_rfl) (by kernel_rfl) ?_
          repeat (go_big_quiet_step (first | (go_at_call 49; exact bw_same (c_penv ho _)) | (go_at_call 84; exact bw_same (c_inv hw _)) | (go_at_call 68; exact bw_call (hK _))))
          refine wpQuiet_nil ?_
          intro W2 hb2
          obtain ⟨y0, y1, y2, y3, y4, y5, y6⟩ := (HG.out.1.below hb2 HG.out.1.lt).allR
          dsimp only at y0 y1 y2 y3 y4 y5 y6
          have hy := (HG.out.1.below hb2 HG.out.1.lt).lt
          have hbE := hide (bthen HG.out.2 hb2)
          clear z0 z1 z2 z3 z4 z5 z6 u0 u1 v0 v1 hb2 HG
          go_wp2_with (first | (go_at_call 49; with_reducible refine (c_penv h0 _).mono ?_; rintro e w9 ⟨rfl, rfl⟩) | (go_at_call 84; with_reducible refine (c_inv h1 _).mono ?_; rintro e w9 ⟨rfl, rfl⟩) | (go_at_call 84; with_reducible refine (c_inv h2 _).mono ?_; rintro e w9 ⟨rfl, rfl⟩))
          go_ret
          exact ⟨ret_bool (by first | exact HE.out.symm | (rw [HE.out]; simp; done) | (rw [HE.out]; simp; omega)), hbE.out⟩
        | true =>
          cases h3 : inB k 0 15 with
          | false =>
            have HE : Hid (fmB ⟨p, n, t, o, wh, k, tx⟩ = false) := hide (by rw [fm_re]; dsimp only; rw [HRight.out]; simp [h0, h1, h2, h3])
            clear HRight
            refine wp_region_bw W (Below.refl _ _) (by kernel_rfl) (by kernel_rfl) ?_
            repeat (go_big_quiet_step (first | (go_at_call 49; exact bw_same (c_penv ho _)) | (go_at_call 84; exact bw_same (c_inv hw _)) | (go_at_call 68; exact bw_call (hK _))))
            refine wpQuiet_nil ?_
            intro W2 hb2
            obtain ⟨y0, y1, y2, y3, y4, y5, y6⟩ := (HG.out.1.below hb2 HG.out.1.lt).allR
            dsimp only at y0 y1 y2 y3 y4 y5 y6
            have hy := (HG.out.1.below hb2 HG.out.1.lt).lt
            have hbE := hide (bthen HG.out.2 hb2)
            clear z0 z1 z2 z3 z4 z5 z6 u0 u1 v0 v1 hb2 HG
            go_wp2_with (first | (go_at_call 49; with_reducible refine (c_penv h0 _).mono ?_; rintro e w9 ⟨rfl, rfl⟩) | (go_at_call 84; with_reducible refine (c_inv h1 _).mono ?_; rintro e w9 ⟨rfl, rfl⟩) | (go_at_call 84; with_reducible refine (c_inv h2 _).mono ?_; rintro e w9 ⟨rfl, rfl⟩) | (go_at_call 84; with_reducible refine (c_inv h3 _).mono ?_; rintro e w9 ⟨rfl, rfl⟩))
            go_ret
            exact ⟨ret_bool (by first | exact HE.out.symm | (rw [HE.out]; simp; done) | (rw [HE.out]; simp; omega)), hbE.out⟩
          | true =>
            by_cases hz : tx.size ≤ 4000
            · have HE : Hid (fmB ⟨p, n, t, o, wh, k, tx⟩ = true) := hide (by rw [fm_re]; dsimp only; rw [HRight.out]; simp [h0, h1, h2, h3, hz])
              clear HRight
              refine wp_region_bw W (Below.refl _ _) (by kernel_rfl) (by kernel_rfl) ?_
              repeat (go_big_quiet_step (first | (go_at_call 49; exact bw_same (c_penv ho _)) | (go_at_call 84; exact bw_same (c_inv hw _)) | (go_at_call 68; exact bw_call (hK _))))
              refine wpQuiet_nil ?_
              intro W2 hb2
              obtain ⟨y0, y1, y2, y3, y4, y5, y6⟩ := (HG.out.1.below hb2 HG.out.1.lt).allR
              dsimp only at y0 y1 y2 y3 y4 y5 y6
              have hy := (HG.out.1.below hb2 HG.out.1.lt).lt
              have hbE := hide (bthen HG.out.2 hb2)
              clear z0 z1 z2 z3 z4 z5 z6 u0 u1 v0 v1 hb2 HG
              go_wp2_with (first | (go_at_call 49; with_reducible refine (c_penv h0 _).mono ?_; rintro e w9 ⟨rfl, rfl⟩) | (go_at_call 84; with_reducible refine (c_inv h1 _).mono ?_; rintro e w9 ⟨rfl, rfl⟩) | (go_at_call 84; with_reducible refine (c_inv h2 _).mono ?_; rintro e w9 ⟨rfl, rfl⟩) | (go_at_call 84; with_reducible refine (c_inv h3 _).mono ?_; rintro e w9 ⟨rfl, rfl⟩))
              go_ret
              exact ⟨ret_bool (by first | exact HE.out.symm | (rw [HE.out]; simp; done) | (rw [HE.out]; simp; omega)), hbE.out⟩
            · have HE : Hid (fmB ⟨p, n, t, o, wh, k, tx⟩ = false) := hide (by rw [fm_re]; dsimp only; rw [HRight.out]; simp [h0, h1, h2, h3, hz])
              clear HRight
              refine wp_region_bw W (Below.refl _ _) (by kernel_rfl) (by kernel_rfl) ?_
              repeat (go_big_quiet_step (first | (go_at_call 49; exact bw_same (c_penv ho _)) | (go_at_call 84; exact bw_same (c_inv hw _)) | (go_at_call 68; exact bw_call (hK _))))
              refine wpQuiet_nil ?_
              intro W2 hb2
              obtain ⟨y0, y1, y2, y3, y4, y5, y6⟩ := (HG.out.1.below hb2 HG.out.1.lt).allR
              dsimp only at y0 y1 y2 y3 y4 y5 y6
              have hy := (HG.out.1.below hb2 HG.out.1.lt).lt
              have hbE := hide (bthen HG.out.2 hb2)
              clear z0 z1 z2 z3 z4 z5 z6 u0 u1 v0 v1 hb2 HG
              go_wp2_with (first | (go_at_call 49; with_reducible refine (c_penv h0 _).mono ?_; rintro e w9 ⟨rfl, rfl⟩) | (go_at_call 84; with_reducible refine (c_inv h1 _).mono ?_; rintro e w9 ⟨rfl, rfl⟩) | (go_at_call 84; with_reducible refine (c_inv h2 _).mono ?_; rintro e w9 ⟨rfl, rfl⟩) | (go_at_call 84; with_reducible refine (c_inv h3 _).mono ?_; rintro e w9 ⟨rfl, rfl⟩))
              go_ret
              exact ⟨ret_bool (by first | exact HE.out.symm | (rw [HE.out]; simp; done) | (rw [HE.out]; simp; omega)), hbE.out⟩
  · have hq : ∀ w, (binOp .eql 70 (.agg #[.int .i64 o, .int .i64 wh]) (.agg #[.int .i64 (-1), .int .i64 0])).run Tryz.prog w = .ok (.bool false) w := fun w => by rw [eqlKy w (o, wh) (-1, 0), decide_eq_false hr]
    have HRt : Hid (rootB ⟨p, n, t, o, wh, k, tx⟩ = false) := hide (by
      simp only [Prod.mk.injEq] at hr
      unfold rootB; simp only [Bool.and_eq_false_iff, decide_eq_false_iff_not]; omega)
    clear hr
    cases ho : inB o 0 39 with
    | false =>
      have HRight : Hid ((rootB ⟨p, n, t, o, wh, k, tx⟩ || (inB o 0 39 && (inB wh 1 150 && !decide (tgt ⟨p, n, t, o, wh, k, tx⟩ = keyR ⟨p, n, t, o, wh, k, tx⟩)))) = false) := hide (by rw [HRt.out, ho]; rfl)
      have HE : Hid (fmB ⟨p, n, t, o, wh, k, tx⟩ = false) := hide (by rw [fm_re]; dsimp only; rw [HRight.out]; rfl)
      clear HRight
      refine wp_region_bw W (Below.refl _ _) (by kernel_rfl) (by kernel_rfl) ?_
      repeat (go_big_quiet_step (first | (go_at_call 49; exact bw_same (c_penv ho _)) | (go_at_call 84; exact bw_same (c_inv hw _)) | (go_at_call 68; exact bw_call (hK _))))
      refine wpQuiet_nil ?_
      intro W2 hb2
      obtain ⟨y0, y1, y2, y3, y4, y5, y6⟩ := (HG.out.1.below hb2 HG.out.1.lt).allR
      dsimp only at y0 y1 y2 y3 y4 y5 y6
      have hy := (HG.out.1.below hb2 HG.out.1.lt).lt
      have hbE := hide (bthen HG.out.2 hb2)
      clear z0 z1 z2 z3 z4 z5 z6 u0 u1 v0 v1 hb2 HG
      go_wp2_with fail
      go_ret
      exact ⟨ret_bool HE.out.symm, hbE.out⟩
    | true =>
      cases hw : inB wh 1 150 with
      | false =>
        have HRight : Hid ((rootB ⟨p, n, t, o, wh, k, tx⟩ || (inB o 0 39 && (inB wh 1 150 && !decide (tgt ⟨p, n, t, o, wh, k, tx⟩ = keyR ⟨p, n, t, o, wh, k, tx⟩)))) = false) := hide (by rw [HRt.out, ho, hw]; rfl)
        have HE : Hid (fmB ⟨p, n, t, o, wh, k, tx⟩ = false) := hide (by rw [fm_re]; dsimp only; rw [HRight.out]; rfl)
        clear HRight
        refine wp_region_bw W (Below.refl _ _) (by kernel_rfl) (by kernel_rfl) ?_
        repeat (go_big_quiet_step (first | (go_at_call 49; exact bw_same (c_penv ho _)) | (go_at_call 84; exact bw_same (c_inv hw _)) | (go_at_call 68; exact bw_call (hK _))))
        refine wpQuiet_nil ?_
        intro W2 hb2
        obtain ⟨y0, y1, y2, y3, y4, y5, y6⟩ := (HG.out.1.below hb2 HG.out.1.lt).allR
        dsimp only at y0 y1 y2 y3 y4 y5 y6
        have hy := (HG.out.1.below hb2 HG.out.1.lt).lt
        have hbE := hide (bthen HG.out.2 hb2)
        clear z0 z1 z2 z3 z4 z5 z6 u0 u1 v0 v1 hb2 HG
        go_wp2_with fail
        go_ret
        exact ⟨ret_bool HE.out.symm, hbE.out⟩
      | true =>
        by_cases hk : (o, wh) = (p, n)
        · have hq2 : ∀ w, (binOp .neq 70 (.agg #[.int .i64 o, .int .i64 wh]) (.agg #[.int .i64 p, .int .i64 n])).run Tryz.prog w = .ok (.bool false) w := fun w => by rw [neqKy w (o, wh) (p, n), decide_eq_true hk]; rfl
          have HRight : Hid ((rootB ⟨p, n, t, o, wh, k, tx⟩ || (inB o 0 39 && (inB wh 1 150 && !decide (tgt ⟨p, n, t, o, wh, k, tx⟩ = keyR ⟨p, n, t, o, wh, k, tx⟩)))) = false) := hide (by rw [HRt.out, ho, hw, show decide (tgt ⟨p, n, t, o, wh, k, tx⟩ = keyR ⟨p, n, t, o, wh, k, tx⟩) = true from decide_eq_true hk]; rfl)
          clear hk
          have HE : Hid (fmB ⟨p, n, t, o, wh, k, tx⟩ = false) := hide (by rw [fm_re]; dsimp only; rw [HRight.out]; rfl)
          clear HRight
          refine wp_region_bw W (Below.refl _ _) (by kernel_rfl) (by kernel_rfl) ?_
          repeat (go_big_quiet_step (first | (go_at_call 49; exact bw_same (c_penv ho _)) | (go_at_call 84; exact bw_same (c_inv hw _)) | (go_at_call 68; exact bw_call (hK _))))
          refine wpQuiet_nil ?_
          intro W2 hb2
          obtain ⟨y0, y1, y2, y3, y4, y5, y6⟩ := (HG.out.1.below hb2 HG.out.1.lt).allR
          dsimp only at y0 y1 y2 y3 y4 y5 y6
          have hy := (HG.out.1.below hb2 HG.out.1.lt).lt
          have hbE := hide (bthen HG.out.2 hb2)
          clear z0 z1 z2 z3 z4 z5 z6 u0 u1 v0 v1 hb2 HG
          go_wp2_with fail
          go_ret
          exact ⟨ret_bool HE.out.symm, hbE.out⟩
        · have hq2 : ∀ w, (binOp .neq 70 (.agg #[.int .i64 o, .int .i64 wh]) (.agg #[.int .i64 p, .int .i64 n])).run Tryz.prog w = .ok (.bool true) w := fun w => by rw [neqKy w (o, wh) (p, n), decide_eq_false hk]; rfl
          have HRight : Hid ((rootB ⟨p, n, t, o, wh, k, tx⟩ || (inB o 0 39 && (inB wh 1 150 && !decide (tgt ⟨p, n, t, o, wh, k, tx⟩ = keyR ⟨p, n, t, o, wh, k, tx⟩)))) = true) := hide (by rw [HRt.out, ho, hw, show decide (tgt ⟨p, n, t, o, wh, k, tx⟩ = keyR ⟨p, n, t, o, wh, k, tx⟩) = false from decide_eq_false hk]; rfl)
          clear hk
          cases h0 : inB p 0 39 with
          | false =>
            have HE : Hid (fmB ⟨p, n, t, o, wh, k, tx⟩ = false) := hide (by rw [fm_re]; dsimp only; rw [HRight.out]; simp [h0])
            clear HRight
            refine wp_region_bw W (Below.refl _ _) (by kernel_rfl) (by kernel_rfl) ?_
            repeat (go_big_quiet_step (first | (go_at_call 49; exact bw_same (c_penv ho _)) | (go_at_call 84; exact bw_same (c_inv hw _)) | (go_at_call 68; exact bw_call (hK _))))
            refine wpQuiet_nil ?_
            intro W2 hb2
            obtain ⟨y0, y1, y2, y3, y4, y5, y6⟩ := (HG.out.1.below hb2 HG.out.1.lt).allR
            dsimp only at y0 y1 y2 y3 y4 y5 y6
            have hy := (HG.out.1.below hb2 HG.out.1.lt).lt
            have hbE := hide (bthen HG.out.2 hb2)
            clear z0 z1 z2 z3 z4 z5 z6 u0 u1 v0 v1 hb2 HG
            go_wp2_with (first | (go_at_call 49; with_reducible refine (c_penv h0 _).mono ?_; rintro e w9 ⟨rfl, rfl⟩))
            go_ret
            exact ⟨ret_bool (by first | exact HE.out.symm | (rw [HE.out]; simp; done) | (rw [HE.out]; simp; omega)), hbE.out⟩
          | true =>
            cases h1 : inB n 1 150 with
            | false =>
              have HE : Hid (fmB ⟨p, n, t, o, wh, k, tx⟩ = false) := hide (by rw [fm_re]; dsimp only; rw [HRight.out]; simp [h0, h1])
              clear HRight
              refine wp_region_bw W (Below.refl _ _) (by kernel_rfl) (by kernel_rfl) ?_
              repeat (go_big_quiet_step (first | (go_at_call 49; exact bw_same (c_penv ho _)) | (go_at_call 84; exact bw_same (c_inv hw _)) | (go_at_call 68; exact bw_call (hK _))))
              refine wpQuiet_nil ?_
              intro W2 hb2
              obtain ⟨y0, y1, y2, y3, y4, y5, y6⟩ := (HG.out.1.below hb2 HG.out.1.lt).allR
              dsimp only at y0 y1 y2 y3 y4 y5 y6
              have hy := (HG.out.1.below hb2 HG.out.1.lt).lt
              have hbE := hide (bthen HG.out.2 hb2)
              clear z0 z1 z2 z3 z4 z5 z6 u0 u1 v0 v1 hb2 HG
              go_wp2_with (first | (go_at_call 49; with_reducible refine (c_penv h0 _).mono ?_; rintro e w9 ⟨rfl, rfl⟩) | (go_at_call 84; with_reducible refine (c_inv h1 _).mono ?_; rintro e w9 ⟨rfl, rfl⟩))
              go_ret
              exact ⟨ret_bool (by first | exact HE.out.symm | (rw [HE.out]; simp; done) | (rw [HE.out]; simp; omega)), hbE.out⟩
            | true =>
              cases h2 : inB t 0 1000000 with
              | false =>
                have HE : Hid (fmB ⟨p, n, t, o, wh, k, tx⟩ = false) := hide (by rw [fm_re]; dsimp only; rw [HRight.out]; simp [h0, h1, h2])
                clear HRight
                refine wp_region_bw W (Below.refl _ _) (by kernel_rfl) (by kernel_rfl) ?_
                repeat (go_big_quiet_step (first | (go_at_call 49; exact bw_same (c_penv ho _)) | (go_at_call 84; exact bw_same (c_inv hw _)) | (go_at_call 68; exact bw_call (hK _))))
                refine wpQuiet_nil ?_
                intro W2 hb2
                obtain ⟨y0, y1, y2, y3, y4, y5, y6⟩ := (HG.out.1.below hb2 HG.out.1.lt).allR
                dsimp only at y0 y1 y2 y3 y4 y5 y6
                have hy := (HG.out.1.below hb2 HG.out.1.lt).lt
                have hbE := hide (bthen HG.out.2 hb2)
                clear z0 z1 z2 z3 z4 z5 z6 u0 u1 v0 v1 hb2 HG
                go_wp2_with (first | (go_at_call 49; with_reducible refine (c_penv h0 _).mono ?_; rintro e w9 ⟨rfl, rfl⟩) | (go_at_call 84; with_reducible refine (c_inv h1 _).mono ?_; rintro e w9 ⟨rfl, rfl⟩) | (go_at_call 84; with_reducible refine (c_inv h2 _).mono ?_; rintro e w9 ⟨rfl, rfl⟩))
                go_ret
                exact ⟨ret_bool (by first | exact HE.out.symm | (rw [HE.out]; simp; done) | (rw [HE.out]; simp; omega)), hbE.out⟩
              | true =>
                cases h3 : inB k 0 15 with
                | false =>
                  have HE : Hid (fmB ⟨p, n, t, o, wh, k, tx⟩ = false) := hide (by rw [fm_re]; dsimp only; rw [HRight.out]; simp [h0, h1, h2, h3])
                  clear HRight
                  refine wp_region_bw W (Below.refl _ _) (by kernel_rfl) (by kernel_rfl) ?_
                  repeat (go_big_quiet_step (first | (go_at_call 49; exact bw_same (c_penv ho _)) | (go_at_call 84; exact bw_same (c_inv hw _)) | (go_at_call 68; exact bw_call (hK _))))
                  refine wpQuiet_nil ?_
                  intro W2 hb2
                  obtain ⟨y0, y1, y2, y3, y4, y5, y6⟩ := (HG.out.1.below hb2 HG.out.1.lt).allR
                  dsimp only at y0 y1 y2 y3 y4 y5 y6
                  have hy := (HG.out.1.below hb2 HG.out.1.lt).lt
                  have hbE := hide (bthen HG.out.2 hb2)
                  clear z0 z1 z2 z3 z4 z5 z6 u0 u1 v0 v1 hb2 HG
                  go_wp2_with (first | (go_at_call 49; with_reducible refine (c_penv h0 _).mono ?_; rintro e w9 ⟨rfl, rfl⟩) | (go_at_call 84; with_reducible refine (c_inv h1 _).mono ?_; rintro e w9 ⟨rfl, rfl⟩) | (go_at_call 84; with_reducible refine (c_inv h2 _).mono ?_; rintro e w9 ⟨rfl, rfl⟩) | (go_at_call 84; with_reducible refine (c_inv h3 _).mono ?_; rintro e w9 ⟨rfl, rfl⟩))
                  go_ret
                  exact ⟨ret_bool (by first | exact HE.out.symm | (rw [HE.out]; simp; done) | (rw [HE.out]; simp; omega)), hbE.out⟩
                | true =>
                  by_cases hz : tx.size ≤ 4000
                  · have HE : Hid (fmB ⟨p, n, t, o, wh, k, tx⟩ = true) := hide (by rw [fm_re]; dsimp only; rw [HRight.out]; simp [h0, h1, h2, h3, hz])
                    clear HRight
                    refine wp_region_bw W (Below.refl _ _) (by kernel_rfl) (by kernel_rfl) ?_
                    repeat (go_big_quiet_step (first | (go_at_call 49; exact bw_same (c_penv ho _)) | (go_at_call 84; exact bw_same (c_inv hw _)) | (go_at_call 68; exact bw_call (hK _))))
                    refine wpQuiet_nil ?_
                    intro W2 hb2
                    obtain ⟨y0, y1, y2, y3, y4, y5, y6⟩ := (HG.out.1.below hb2 HG.out.1.lt).allR
                    dsimp only at y0 y1 y2 y3 y4 y5 y6
                    have hy := (HG.out.1.below hb2 HG.out.1.lt).lt
                    have hbE := hide (bthen HG.out.2 hb2)
                    clear z0 z1 z2 z3 z4 z5 z6 u0 u1 v0 v1 hb2 HG
                    go_wp2_with (first | (go_at_call 49; with_reducible refine (c_penv h0 _).mono ?_; rintro e w9 ⟨rfl, rfl⟩) | (go_at_call 84; with_reducible refine (c_inv h1 _).mono ?_; rintro e w9 ⟨rfl, rfl⟩) | (go_at_call 84; with_reducible refine (c_inv h2 _).mono ?_; rintro e w9 ⟨rfl, rfl⟩) | (go_at_call 84; with_reducible refine (c_inv h3 _).mono ?_; rintro e w9 ⟨rfl, rfl⟩))
                    go_ret
                    exact ⟨ret_bool (by first | exact HE.out.symm | (rw [HE.out]; simp; done) | (rw [HE.out]; simp; omega)), hbE.out⟩
                  · have HE : Hid (fmB ⟨p, n, t, o, wh, k, tx⟩ = false) := hide (by rw [fm_re]; dsimp only; rw [HRight.out]; simp [h0, h1, h2, h3, hz])
                    clear HRight
                    refine wp_region_bw W (Below.refl _ _) (by kernel_rfl) (by kernel_rfl) ?_
                    repeat (go_big_quiet_step (first | (go_at_call 49; exact bw_same (c_penv ho _)) | (go_at_call 84; exact bw_same (c_inv hw _)) | (go_at_call 68; exact bw_call (hK _))))
                    refine wpQuiet_nil ?_
                    intro W2 hb2
                    obtain ⟨y0, y1, y2, y3, y4, y5, y6⟩ := (HG.out.1.below hb2 HG.out.1.lt).allR
                    dsimp only at y0 y1 y2 y3 y4 y5 y6
                    have hy := (HG.out.1.below hb2 HG.out.1.lt).lt
                    have hbE := hide (bthen HG.out.2 hb2)
                    clear z0 z1 z2 z3 z4 z5 z6 u0 u1 v0 v1 hb2 HG
                    go_wp2_with (first | (go_at_call 49; with_reducible refine (c_penv h0 _).mono ?_; rintro e w9 ⟨rfl, rfl⟩) | (go_at_call 84; with_reducible refine (c_inv h1 _).mono ?_; rintro e w9 ⟨rfl, rfl⟩) | (go_at_call 84; with_reducible refine (c_inv h2 _).mono ?_; rintro e w9 ⟨rfl, rfl⟩) | (go_at_call 84; with_reducible refine (c_inv h3 _).mono ?_; rintro e w9 ⟨rfl, rfl⟩))
                    go_ret
                    exact ⟨ret_bool (by first | exact HE.out.symm | (rw [HE.out]; simp; done) | (rw [HE.out]; simp; omega)), hbE.out⟩
end Go.Proofs.YtcfbgelhggapjaaGreatDoor
