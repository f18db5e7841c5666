/- The walk of StampOrder, over the contracts of sane and of Sorted. -/
import Derived.Test.YtenhghkiapkejaaW22
import Derived.Test.YtenhghkiapkejaaW23
import Derived.Test.YtenhghkiapkejaaSortP
import Derived.Test.YtenhghkiapkejaaSl
import Derived.Test.YtenhghkiapkejaaRg
import Derived.Deep.RegionHeld3
import Derived.Deep.AppendLies
import Derived.Deep.RegionLaw

namespace Go.Proofs.Ytenhghkiapkejaa
open Go.RowKit
theorem stp_ok (s : I3) : stVal (stp s) = true ∧ (stp s).1 < 1000 ∧ 0 ≤ (stp s).1 := by
  have h1 := pk_range s.1 1000 (by omega)
  have h2 := pk_range s.2.1 4 (by omega)
  have h3 := pk_range s.2.2 5 (by omega)
  unfold stVal stp
  simp only [Bool.and_eq_true, inB_iff]
  omega
theorem stamps_ok (x : List I3) : ∀ s ∈ stamps x, stVal s = true ∧ s.1 < 1000 ∧ 0 ≤ s.1 := by
  intro s hs
  unfold stamps at hs
  obtain ⟨y, _, rfl⟩ := List.mem_map.1 hs
  exact stp_ok y
theorem stamps_le (x : List I3) : (stamps x).length ≤ 12 := by
  unfold stamps; rw [List.length_map, List.length_take]; omega
theorem flat_one (l : List I3) (u : Value) (h : u ∈ l.flatMap c3) : u.oneCell' = true := by
  obtain ⟨s, _, hu⟩ := List.mem_flatMap.1 h
  simp only [c3, List.mem_cons, List.not_mem_nil, or_false] at hu
  rcases hu with rfl | rfl | rfl <;> rfl
theorem own_empty {w W : World} {t : TypeId} {k : Nat} (h : Below w.heap.size w W) : (W.alloc (.cells #[] t)).ownsRow w.heap.size t k (.slice (some ⟨W.heap.size, 0, none⟩) 0 0) 0 [] :=
  ⟨by simp, .inr ⟨W.heap.size, 0, #[], rfl, h.size, heap_alloc_new W (.cells #[] t), Nat.le_refl _, Nat.zero_le _, by simp, by simp⟩⟩
theorem own_ge {w W : World} {t : TypeId} {k n : Nat} {v : Value} {xs : List Value} (h : W.ownsRow w.heap.size t k v n xs) : ∀ j, v.ownBlock = some j → w.heap.size ≤ j := fun j e => (h.lt j e).1
theorem bef_tri (s t : I3) : (bef s t = true ∧ bef t s = false ∧ decide (s = t) = false) ∨ (bef s t = false ∧ bef t s = true ∧ decide (s = t) = false) ∨ (bef s t = false ∧ bef t s = false ∧ decide (s = t) = true) := by
  obtain ⟨s1, s2, s3⟩ := s
  obtain ⟨t1, t2, t3⟩ := t
  simp only [bef, decide_eq_true_eq, decide_eq_false_iff_not, cmpS_neg, Prod.mk.injEq]
  omega
theorem bef_trans {s t u : I3} (h : bef s t = true) (k : bef t u = true) : bef s u = true := by
  simp only [bef, decide_eq_true_eq, cmpS_neg] at *
  omega
theorem count_take_succ (l : List I3) (k : Nat) (h : k < l.length) (s : I3) : (l.take (k + 1)).count s = (l.take k).count s + (if l[k] = s then 1 else 0) := by
  rw [List.take_succ_eq_append_getElem h, List.count_append, List.count_singleton]
  simp only [beq_iff_eq]
theorem cast_inc (n : Nat) : Value.int .i64 ((n : Int) + 1) = Value.int .i64 ((n + 1 : Nat) : Int) := by simp
theorem cast_dec (n m : Nat) : Value.int .i64 ((n : Int) - m - 1) = Value.int .i64 ((n : Int) - ((m + 1 : Nat) : Int)) := by congr 1; omega
theorem bef_sorted (l : List I3) (k : Nat) (hk : 0 < k) (h : k < (sortS l).length) : bef (sortS l)[k] (sortS l)[k - 1] = false := by
  have hp : (sortS l).Pairwise (fun x y => leS x y = true) := List.pairwise_mergeSort leS_trans leS_total l
  have := List.pairwise_iff_getElem.1 hp (k - 1) k (by omega) h (by omega)
  unfold leS at this
  unfold bef
  exact decide_eq_false (of_decide_eq_true this)
theorem nextAt_ge : ∀ (l : List I3) (c : Int), c ≤ nextAt l c ∧ ∀ s ∈ l, s.1 + 1 ≤ nextAt l c
  | [], c => ⟨Int.le_refl _, by simp⟩
  | s :: l, c => by
    obtain ⟨h1, h2⟩ := nextAt_ge l (max c (s.1 + 1))
    have e : nextAt (s :: l) c = nextAt l (max c (s.1 + 1)) := rfl
    rw [e]
    refine ⟨by omega, fun t ht => ?_⟩
    rcases List.mem_cons.1 ht with rfl | ht
    · omega
    · exact h2 t ht
theorem nextAt_le : ∀ (l : List I3) (c m : Int), c ≤ m → (∀ s ∈ l, s.1 + 1 ≤ m) → nextAt l c ≤ m
  | [], c, m, h, _ => h
  | s :: l, c, m, h, k => by
    have e : nextAt (s :: l) c = nextAt l (max c (s.1 + 1)) := rfl
    rw [e]
    exact nextAt_le l _ m (by have := k s (by simp); omega) (fun t ht => k t (by simp [ht]))
theorem next_ok (l : List I3) (p n c : Int) (h : ∀ s ∈ l, stVal s = true ∧ s.1 < 1000 ∧ 0 ≤ s.1) (hp : 0 ≤ p ∧ p ≤ 39) (hn : 1 ≤ n ∧ n ≤ 999) (hc : 0 ≤ c ∧ c < 1500) :
    nextS l p n c = some (nextAt l c, p, n) ∧ (c ≤ nextAt l c ∧ stVal (nextAt l c, p, n) = true) ∧ ∀ s ∈ l, bef s (nextAt l c, p, n) = true := by
  have h1 := nextAt_ge l c
  have h2 := nextAt_le l c 1500 (by omega) (fun s hs => by have := h s hs; omega)
  have h3 : stVal (nextAt l c, p, n) = true := by
    unfold stVal
    simp only [Bool.and_eq_true, inB_iff]
    omega
  refine ⟨?_, ⟨h1.1, h3⟩, fun s hs => ?_⟩
  · unfold nextS
    rw [h3, List.all_eq_true.2 (fun s hs => (h s hs).1)]
    rfl
  · have := h1.2 s hs
    simp only [bef, decide_eq_true_eq, cmpS_neg]
    omega
theorem flat_drop3 (l : List I3) (k : Nat) : (l.flatMap c3).drop (k * 3) = (l.drop k).flatMap c3 := by
  induction k generalizing l with
  | zero => simp
  | succ k ih =>
    cases l with
    | nil => simp
    | cons s l =>
      simp only [List.flatMap_cons, List.drop_succ_cons]
      rw [← ih l, Nat.succ_mul, Nat.add_comm (k * 3) 3, ← List.drop_drop]
      rfl
theorem flat_take3 (l : List I3) (k : Nat) : (l.flatMap c3).take (k * 3) = (l.take k).flatMap c3 := by
  induction k generalizing l with
  | zero => simp
  | succ k ih =>
    cases l with
    | nil => simp
    | cons s l =>
      simp only [List.flatMap_cons, List.take_succ_cons]
      rw [← ih l, Nat.succ_mul]
      simp [c3]
theorem sortS_turn (l : List I3) (k : Nat) : sortS (l.drop k ++ l.take k) = sortS l := by
  refine sortS_uniq ((List.mergeSort_perm _ leS).trans ?_) (List.pairwise_mergeSort leS_trans leS_total _)
  have h := List.perm_append_comm (l₁ := l.drop k) (l₂ := l.take k)
  rw [List.take_append_drop] at h
  exact h
theorem f20v {s : I3} {b : Bool} (h : stVal s = b) (w : World) :
    Calls Try.prog 20 #[.agg #[.int .i64 s.1, .int .i64 s.2.1, .int .i64 s.2.2]] w fun e w' => e = .returned (.bool b) ∧ Below w.heap.size w w' := by
  subst h; exact f20 s w
theorem f12n {l m : List I3} {n k : Nat} (hl : l.length = n) (hm : m.length = k) (A B : Option Addr) (c d : Nat) (w : World) (hn : n ≤ c) (hc : c ≤ 9223372036854775807) (hmd : k ≤ d)
    (hr : SlR w w.heap.size 3 A n (l.flatMap c3)) (hs : SlR w w.heap.size 3 B k (m.flatMap c3)) :
    Calls Try.prog 12 #[.slice A n c, .slice B k d] w fun e w' => e = .returned (.bool (decide (l = m))) ∧ Below w.heap.size w w' := by
  subst hl; subst hm; exact f12 A B l m c d w hn hc hmd hr hs
theorem f18v {s t : I3} {b : Bool} (h : bef s t = b) (w : World) :
    Calls Try.prog 18 #[.agg #[.int .i64 s.1, .int .i64 s.2.1, .int .i64 s.2.2], .agg #[.int .i64 t.1, .int .i64 t.2.1, .int .i64 t.2.2]] w fun e w' => e = .returned (.bool b) ∧ Below w.heap.size w w' := by
  subst h; exact f18 s t w
theorem eql24v {s t : I3} {b : Bool} (h : decide (s = t) = b) (w : World) : (binOp .eql 24 (.agg #[.int .i64 s.1, .int .i64 s.2.1, .int .i64 s.2.2]) (.agg #[.int .i64 t.1, .int .i64 t.2.1, .int .i64 t.2.2])).run Try.prog w = .ok (.bool b) w := by
  rw [eql24, ← h]
  obtain ⟨s1, s2, s3⟩ := s
  obtain ⟨t1, t2, t3⟩ := t
  simp
def H13o : Prop := ∀ (A : Option Addr) (l : List I3) (c : Nat) (w : World) (_ : l.length ≤ c) (_ : c ≤ 9223372036854775807) (_ : l.length ≤ 100) (_ : SlR w w.heap.size 3 A l.length (l.flatMap c3)),
    Calls Try.prog 13 #[.slice A l.length c] w fun e w' => ∃ v, e = .returned v ∧ w'.ownsRow w.heap.size 24 3 v l.length ((sortS l).flatMap c3) ∧ Below w.heap.size w w'
set_option maxRecDepth 100000 in
set_option maxHeartbeats 1000000 in
theorem f5 (h10 : H10) (h13 : H13o) (A : Option Addr) (x : List I3) (c : Nat) (t p n u : Int) (w : World) (hn : x.length ≤ c) (hc : c ≤ 9223372036854775807) (hw : ∀ s ∈ x, wf64 s.1 ∧ wf64 s.2.1 ∧ wf64 s.2.2) (ht : wf64 t) (hp : wf64 p) (hnn : wf64 n) (hu : wf64 u)
    (hr : SlR w w.heap.size 3 A x.length (x.flatMap c3)) :
    Calls Try.prog 5 #[.slice A x.length c, .int .i64 t, .int .i64 p, .int .i64 n, .int .i64 u] w fun e w' => e = .returned (.bool true) ∧ Below w.heap.size w w' := by
  obtain ⟨ht1, ht2⟩ := ht
  go_enter Try.func5, Try.ntmps5
  go_wp2_with fail
  refine (h10 _).mono ?_
  rintro e w1 ⟨rfl, hb1⟩
  go_wp2_with fail
  refine (f11 A x c _ hn hc hw (hr.to hb1)).mono ?_
  rintro e w2 ⟨v, rfl, hown, hb2⟩
  obtain ⟨A', cv, rfl, hcv1, hcv2, hL⟩ := SlR.of_own hown
  have hb12 := bthen hb1 hb2
  have hok := stamps_ok x
  have hle := stamps_le x
  clear hown hr hw hb1 hb2 hn
  generalize stamps x = l at *
  have hpk := pk_range t ((l.length : Int) + 1) (by omega)
  obtain ⟨hk1, hk2⟩ := hpk
  obtain ⟨k, hk⟩ : ∃ k : Nat, pk t ((l.length : Int) + 1) = k := ⟨(pk t ((l.length : Int) + 1)).toNat, by omega⟩
  have hkl : k ≤ l.length := by omega
  obtain ⟨i0, hi, hz0, hz1, hz2⟩ := info_parts Try.info24
  obtain ⟨A1, hs1, hr1⟩ := hL.cutLo hcv1 hkl 26 24 i0 Try.underlying26 hi hz1
  obtain ⟨A2, hs2, hr2⟩ := hL.cutHi hcv1 hkl 26 24 i0 Try.underlying26 hi
  have HK := hide hk
  clear hk
  go_wp2_with (first | (go_at_call 15; refine (f15 _ _ _ (by omega) (by omega) (by omega) (by omega)).mono ?_; rintro e w' ⟨rfl, rfl⟩))
  rw [HK.out]
  go_region_held3 (fun w' => Below w2.heap.size w2 w' ∧ True)
          ((go_split_ands; first | exact ⟨bdrew (Below.refl _ _), trivial⟩ | exact ⟨by assumption, trivial⟩ | exact ⟨balloc (by assumption) _, trivial⟩))
          (first | (go_split_ands; refine step_append_sl (by rfl) _ _ 26 (by rfl) w2.heap.size 24 i0 (.agg #[.int .i64 0, .int .i64 0, .int .i64 0]) 24 Try.underlying26 hi hz0 hz1 hz2 (by rfl) (by decide) _ 0 [] (by rfl) (by first | exact own_empty (bdrew (Below.refl _ _)) | exact (own_empty (Below.refl _ _)).drew) (l.length - k) (cv - k) ((l.flatMap c3).drop (k * 3)) (by rfl) hs1 (by assumption) (by exact fun u hu => flat_one l u (List.mem_of_mem_drop hu)) (by unfold maxLen; omega) (by omega) (by exact Below.size (by assumption)) ?_; intro v4 w4 hown4 hgrow hor; have hb' : Below w2.heap.size w2 w4 := bgrown (by assumption) hgrow (fun j e => by cases e; exact Nat.le_refl _)) |
            (go_split_ands; refine step_append_sl (by rfl) _ _ 26 (by rfl) w2.heap.size 24 i0 (.agg #[.int .i64 0, .int .i64 0, .int .i64 0]) 24 Try.underlying26 hi hz0 hz1 hz2 (by rfl) (by decide) _ _ _ (by rfl) hown4 k cv ((l.flatMap c3).take (k * 3)) (by rfl) hs2 (by assumption) (by exact fun u hu => flat_one l u (List.mem_of_mem_take hu)) (by unfold maxLen; omega) (by omega) (by exact Below.size (by assumption)) ?_; intro v5 w5 hown5 hgrow5 hor5; have hb5 : Below w2.heap.size w2 w5 := bgrown (by assumption) hgrow5 (own_ge hown4)))
  have hb26 : Below w2.heap.size w2 w5 := by assumption
  obtain ⟨A5, c5, rfl, hc51, hc52, hT⟩ := SlR.of_own hown5
  simp only [List.nil_append] at hT
  have hTl : ∃ l2 : List I3, l2 = l.drop k ++ l.take k := ⟨_, rfl⟩
  obtain ⟨l2, hl2⟩ := hTl
  have hlen2 : l2.length = l.length := by rw [hl2]; simp; omega
  have hT2 : SlR w5 w5.heap.size 3 A5 l2.length (l2.flatMap c3) := by
    rw [hlen2, hl2, List.flatMap_append]
    have e1 : (l.flatMap c3).drop (k * 3) = (l.drop k).flatMap c3 := flat_drop3 l k
    have e2 : (l.flatMap c3).take (k * 3) = (l.take k).flatMap c3 := flat_take3 l k
    rw [← e1, ← e2]
    have e : 0 + (l.length - k) + k = l.length := by omega
    rw [e] at hT
    exact hT
  have hsrt : sortS l2 = sortS l := by rw [hl2]; exact sortS_turn l k
  have HL := hide (And.intro hl2 (And.intro hlen2 hsrt))
  have e5 : 0 + (l.length - k) + k = l2.length := by omega
  have hc53 : l2.length ≤ c5 := by omega
  have hl2100 : l2.length ≤ 100 := by omega
  clear hl2 hsrt hT hown5 hown4 hr1 hr2 hs1 hs2
  rw [e5]
  clear e5 hlen2
  have hL5 := hL.to hb26
  go_wp2_with fail
  refine (h13 A' l cv _ hcv1 (by simpa [maxLen] using hcv2) (by omega) hL5).mono ?_
  rintro e w6 ⟨va, rfl, howna, hb6⟩
  obtain ⟨Aa, ca, rfl, hca1, hca2, hA⟩ := SlR.of_own howna
  go_wp2_with fail
  refine (h13 A5 l2 c5 _ hc53 (by simpa [maxLen] using hc52) hl2100 (hT2.to hb6)).mono ?_
  rintro e w7 ⟨vb, rfl, hownb, hb7⟩
  obtain ⟨Ab, cb, rfl, hcb1, hcb2, hB⟩ := SlR.of_own hownb
  have hA7 := hA.to hb7
  have hL7 := (hL5.to hb6).to hb7
  have hb27 := bthen (bthen hb26 hb6) hb7
  rw [HL.out.2.2, HL.out.2.1] at hB
  rw [HL.out.2.1]
  rw [HL.out.2.1] at hcb1
  clear hownb howna hb7 hb6 hA hT2 hL5 hb26 hgrow hgrow5 hb5 HL hL
  have hsl := sortS_len l
  have hca3 : (sortS l).length ≤ ca := by omega
  have hcb3 : (sortS l).length ≤ cb := by omega
  have Hsl := hide hsl
  clear hsl
  go_wp2_with fail
  refine (f12n (l := sortS l) (m := sortS l) Hsl.out Hsl.out _ _ _ _ _ hca1 (by simpa [maxLen] using hca2) hcb1 hA7 hB).mono ?_
  rintro e w8 ⟨rfl, hb8⟩
  have hds : decide (sortS l = sortS l) = true := by simp
  rw [hds]
  clear hds
  have hA8 := hA7.to hb8
  have hL8 := hL7.to hb8
  have hb18 := bthen hb12 (bthen hb27 hb8)
  clear hA7 hL7 hB hb8 hb27 hor5 hor hb'
  go_wp2_with fail
  go_loopw [16] (fun i wr => ∃ j : Nat, j ≤ l.length ∧ i = .int .i64 j ∧ Below w8.heap.size w8 wr) (fun i _ => l.length - (intOf i).toNat)
  case atStart => exact ⟨0, Nat.zero_le _, rfl, Below.refl _ _⟩
  case round =>
    rename_i wr1
    obtain ⟨j, hj, rfl, hbr⟩ := hrel
    by_cases hlt : j < l.length
    · obtain ⟨b, off, rfl, _, _⟩ := hL8.2 (by omega)
      obtain ⟨hs0, hs1, hs2⟩ := hL8.bw3 hlt
      have HJ := hide (rfl : l[j] = l[j])
      have hji : (j : Int) < (l.length : Int) := by omega
      have hj0 : (0 : Int) ≤ (j : Int) := by omega
      go_wp2_with fail
      go_loopw [17, 18] (fun m n wr => ∃ k : Nat, k ≤ l.length ∧ n = .int .i64 k ∧ m = .int .i64 ((l.take k).count l[j] : Nat) ∧ Below w8.heap.size w8 wr) (fun _ n _ => l.length - (intOf n).toNat)
      case atStart => exact ⟨0, Nat.zero_le _, rfl, by simp, hbr⟩
      case round =>
        rename_i wr2
        obtain ⟨k2, hk2, rfl, rfl, hbr2⟩ := hrel
        by_cases hlt2 : k2 < l.length
        · obtain ⟨ht0, ht1', ht2'⟩ := hL8.bw3 hlt2
          have hcnt := count_take_succ l k2 hlt2 l[j]
          have hcl : (l.take k2).count l[j] ≤ 12 := Nat.le_trans List.count_le_length (by rw [List.length_take]; omega)
          have HC := hide hcnt
          clear hcnt
          have hki : (k2 : Int) < (l.length : Int) := by omega
          have hk0 : (0 : Int) ≤ (k2 : Int) := by omega
          rcases bef_tri l[j] l[k2] with ⟨h1, h2, h3⟩ | ⟨h1, h2, h3⟩ | ⟨h1, h2, h3⟩
          · have heq := eql24v h3
            go_wp2_with fail
            refine wp_region_bw w8 (by assumption) (by kernel_rfl) (by kernel_rfl) ?_
            repeat (go_big_quiet_step ((go_at_call 18; exact bw_call (f18v (by assumption) _))))
            refine wpQuiet_nil ?_
            intro w9 hbw9
            go_wp2_with fail
            refine wp_region_bw w8 (by assumption) (by kernel_rfl) (by kernel_rfl) ?_
            repeat (go_big_quiet_step ((go_at_call 18; exact bw_call (f18v (by assumption) _))))
            refine wpQuiet_nil ?_
            intro wa hbwa
            go_wp2_with fail
            refine wp_region_bw w8 (by assumption) (by kernel_rfl) (by kernel_rfl) ?_
            repeat (go_big_quiet_step ((go_at_call 18; exact bw_call (f18v (by assumption) _))))
            refine wpQuiet_nil ?_
            intro wb hbwb
            go_wp2_with fail
            refine wp_region_bw w8 (by assumption) (by kernel_rfl) (by kernel_rfl) ?_
            repeat (go_big_quiet_step ((go_at_call 18; exact bw_call (f18v (by assumption) _))))
            refine wpQuiet_nil ?_
            intro wc hbwc
            go_wp2_with fail
            go_loopw [21] (fun m wr => ∃ k : Nat, k ≤ l.length ∧ m = .int .i64 k ∧ Below w8.heap.size w8 wr) (fun m _ => l.length - (intOf m).toNat)
            case atStart => exact ⟨0, Nat.zero_le _, rfl, by assumption⟩
            case round =>
              rename_i wr3
              obtain ⟨k3, hk3, rfl, hbr3⟩ := hrel
              by_cases hlt3 : k3 < l.length
              · obtain ⟨hu0, hu1', hu2'⟩ := hL8.bw3 hlt3
                have hki3 : (k3 : Int) < (l.length : Int) := by omega
                have hk03 : (0 : Int) ≤ (k3 : Int) := by omega
                cases hb3 : bef l[k2] l[k3]
                all_goals
                  try have hb4 := bef_trans h1 hb3
                  go_wp2_with fail
                  refine wp_region_bw w8 (by assumption) (by kernel_rfl) (by kernel_rfl) ?_
                  repeat (go_big_quiet_step ((go_at_call 18; exact bw_call (f18v (by assumption) _))))
                  refine wpQuiet_nil ?_
                  intro wd hbwd
                  go_wp2_with fail
                  go_roundw
                  case rel => exact ⟨k3 + 1, by omega, by go_num, by assumption⟩
                  case measure => simp [intOf]; omega
              · go_wp2_with fail
                go_roundw
                case rel => exact ⟨k2 + 1, by omega, by go_num, by rw [HC.out]; rw [if_neg (fun e => absurd e.symm (of_decide_eq_false h3)), Nat.add_zero], by assumption⟩
                case measure => simp [intOf]; omega
          · have heq := eql24v h3
            go_wp2_with fail
            refine wp_region_bw w8 (by assumption) (by kernel_rfl) (by kernel_rfl) ?_
            repeat (go_big_quiet_step ((go_at_call 18; exact bw_call (f18v (by assumption) _))))
            refine wpQuiet_nil ?_
            intro w9 hbw9
            go_wp2_with fail
            refine wp_region_bw w8 (by assumption) (by kernel_rfl) (by kernel_rfl) ?_
            repeat (go_big_quiet_step ((go_at_call 18; exact bw_call (f18v (by assumption) _))))
            refine wpQuiet_nil ?_
            intro wa hbwa
            go_wp2_with fail
            refine wp_region_bw w8 (by assumption) (by kernel_rfl) (by kernel_rfl) ?_
            repeat (go_big_quiet_step ((go_at_call 18; exact bw_call (f18v (by assumption) _))))
            refine wpQuiet_nil ?_
            intro wb hbwb
            go_wp2_with fail
            refine wp_region_bw w8 (by assumption) (by kernel_rfl) (by kernel_rfl) ?_
            repeat (go_big_quiet_step ((go_at_call 18; exact bw_call (f18v (by assumption) _))))
            refine wpQuiet_nil ?_
            intro wc hbwc
            go_wp2_with fail
            go_loopw [21] (fun m wr => ∃ k : Nat, k ≤ l.length ∧ m = .int .i64 k ∧ Below w8.heap.size w8 wr) (fun m _ => l.length - (intOf m).toNat)
            case atStart => exact ⟨0, Nat.zero_le _, rfl, by assumption⟩
            case round =>
              rename_i wr3
              obtain ⟨k3, hk3, rfl, hbr3⟩ := hrel
              by_cases hlt3 : k3 < l.length
              · obtain ⟨hu0, hu1', hu2'⟩ := hL8.bw3 hlt3
                have hki3 : (k3 : Int) < (l.length : Int) := by omega
                have hk03 : (0 : Int) ≤ (k3 : Int) := by omega
                go_wp2_with fail
                refine wp_region_bw w8 (by assumption) (by kernel_rfl) (by kernel_rfl) ?_
                repeat (go_big_quiet_step ((go_at_call 18; exact bw_call (f18v (by assumption) _))))
                refine wpQuiet_nil ?_
                intro wd hbwd
                go_wp2_with fail
                go_roundw
                case rel => exact ⟨k3 + 1, by omega, by go_num, by assumption⟩
                case measure => simp [intOf]; omega
              · go_wp2_with fail
                go_roundw
                case rel => exact ⟨k2 + 1, by omega, by go_num, by rw [HC.out]; rw [if_neg (fun e => absurd e.symm (of_decide_eq_false h3)), Nat.add_zero], by assumption⟩
                case measure => simp [intOf]; omega
          · have heq := eql24v h3
            go_wp2_with fail
            refine wp_region_bw w8 (by assumption) (by kernel_rfl) (by kernel_rfl) ?_
            repeat (go_big_quiet_step ((go_at_call 18; exact bw_call (f18v (by assumption) _))))
            refine wpQuiet_nil ?_
            intro w9 hbw9
            go_wp2_with fail
            refine wp_region_bw w8 (by assumption) (by kernel_rfl) (by kernel_rfl) ?_
            repeat (go_big_quiet_step ((go_at_call 18; exact bw_call (f18v (by assumption) _))))
            refine wpQuiet_nil ?_
            intro wa hbwa
            go_wp2_with fail
            refine wp_region_bw w8 (by assumption) (by kernel_rfl) (by kernel_rfl) ?_
            repeat (go_big_quiet_step ((go_at_call 18; exact bw_call (f18v (by assumption) _))))
            refine wpQuiet_nil ?_
            intro wb hbwb
            go_wp2_with fail
            refine wp_region_bw w8 (by assumption) (by kernel_rfl) (by kernel_rfl) ?_
            repeat (go_big_quiet_step ((go_at_call 18; exact bw_call (f18v (by assumption) _))))
            refine wpQuiet_nil ?_
            intro wc hbwc
            go_wp2_with fail
            go_loopw [21] (fun m wr => ∃ k : Nat, k ≤ l.length ∧ m = .int .i64 k ∧ Below w8.heap.size w8 wr) (fun m _ => l.length - (intOf m).toNat)
            case atStart => exact ⟨0, Nat.zero_le _, rfl, by assumption⟩
            case round =>
              rename_i wr3
              obtain ⟨k3, hk3, rfl, hbr3⟩ := hrel
              by_cases hlt3 : k3 < l.length
              · obtain ⟨hu0, hu1', hu2'⟩ := hL8.bw3 hlt3
                have hki3 : (k3 : Int) < (l.length : Int) := by omega
                have hk03 : (0 : Int) ≤ (k3 : Int) := by omega
                go_wp2_with fail
                refine wp_region_bw w8 (by assumption) (by kernel_rfl) (by kernel_rfl) ?_
                repeat (go_big_quiet_step ((go_at_call 18; exact bw_call (f18v (by assumption) _))))
                refine wpQuiet_nil ?_
                intro wd hbwd
                go_wp2_with fail
                go_roundw
                case rel => exact ⟨k3 + 1, by omega, by go_num, by assumption⟩
                case measure => simp [intOf]; omega
              · go_wp2_with fail
                go_roundw
                case rel => exact ⟨k2 + 1, by omega, by go_num, by rw [HC.out]; rw [if_pos (of_decide_eq_true h3).symm]; exact cast_inc _, by assumption⟩
                case measure => simp [intOf]; omega
        · have hfull : l.take k2 = l := List.take_of_length_le (by omega)
          rw [hfull]
          have hperm : (sortS l).count l[j] = l.count l[j] := (List.mergeSort_perm l leS).count_eq _
          have hcl : l.count l[j] ≤ l.length := List.count_le_length
          have HP := hide hperm
          clear hperm hfull
          go_wp2_with fail
          go_loopw [17, 22] (fun m n wr => ∃ k : Nat, k ≤ l.length ∧ n = .int .i64 k ∧ m = .int .i64 ((l.count l[j] : Nat) - (((sortS l).take k).count l[j] : Nat)) ∧ Below w8.heap.size w8 wr) (fun _ n _ => l.length - (intOf n).toNat)
          case atStart => exact ⟨0, Nat.zero_le _, rfl, by simp, by assumption⟩
          case round =>
            rename_i wr4
            obtain ⟨k4, hk4, rfl, rfl, hbr4⟩ := hrel
            by_cases hlt4 : k4 < (sortS l).length
            · obtain ⟨ba, offa, rfl, _, _⟩ := hA8.2 (by omega)
              obtain ⟨ht0, ht1', ht2'⟩ := hA8.bw3 hlt4
              have hcnt := count_take_succ (sortS l) k4 hlt4 l[j]
              have hcl4 : ((sortS l).take k4).count l[j] ≤ 12 := Nat.le_trans List.count_le_length (by rw [List.length_take]; omega)
              have HC := hide hcnt
              clear hcnt
              have hki : (k4 : Int) < (l.length : Int) := by have := Hsl.out; omega
              have hk0 : (0 : Int) ≤ (k4 : Int) := by omega
              cases h3' : decide ((sortS l)[k4] = l[j])
              all_goals
                have heq := eql24v h3'
                rcases Nat.eq_zero_or_pos k4 with hz | hz
                · have hgz : decide ((0 : Int) < (k4 : Int)) = false := by simp; omega
                  have hgz' : decide (0 < k4) = false := by simp; omega
                  have HZ := hide hz
                  clear hz
                  go_wp2_with fail
                  refine wp_region_bw w8 (by assumption) (by kernel_rfl) (by kernel_rfl) ?_
                  repeat (go_big_quiet_step ((go_at_call 18; exact bw_call (f18v (by assumption) _))))
                  refine wpQuiet_nil ?_
                  intro w9 hbw9
                  go_wp2_with fail
                  refine wp_region_bw w8 (by assumption) (by kernel_rfl) (by kernel_rfl) ?_
                  repeat (go_big_quiet_step ((go_at_call 18; exact bw_call (f18v (by assumption) _))))
                  refine wpQuiet_nil ?_
                  intro wa hbwa
                  go_wp2_with fail
                  go_roundw
                  case rel => exact ⟨k4 + 1, by omega, by go_num, by rw [HC.out]; first | (rw [if_pos (of_decide_eq_true h3')]; exact cast_dec _ _) | (rw [if_neg (of_decide_eq_false h3')]; simp; done), by assumption⟩
                  case measure => simp [intOf]; omega
                · have hgz : decide ((0 : Int) < (k4 : Int)) = true := by simp; omega
                  have hgz' : decide (0 < k4) = true := by simp; omega
                  have hk41 : k4 - 1 < (sortS l).length := by omega
                  obtain ⟨hv0, hv1', hv2'⟩ := hA8.bw3 hk41
                  have hbf := bef_sorted l k4 hz hlt4
                  have hk1i : (1 : Int) ≤ (k4 : Int) := by omega
                  go_wp2_with fail
                  refine wp_region_bw w8 (by assumption) (by kernel_rfl) (by kernel_rfl) ?_
                  repeat (go_big_quiet_step ((go_at_call 18; exact bw_call (f18v (by assumption) _))))
                  refine wpQuiet_nil ?_
                  intro w9 hbw9
                  go_wp2_with fail
                  refine wp_region_bw w8 (by assumption) (by kernel_rfl) (by kernel_rfl) ?_
                  repeat (go_big_quiet_step ((go_at_call 18; exact bw_call (f18v (by assumption) _))))
                  refine wpQuiet_nil ?_
                  intro wa hbwa
                  go_wp2_with fail
                  go_roundw
                  case rel => exact ⟨k4 + 1, by omega, by go_num, by rw [HC.out]; first | (rw [if_pos (of_decide_eq_true h3')]; exact cast_dec _ _) | (rw [if_neg (of_decide_eq_false h3')]; simp; done), by assumption⟩
                  case measure => simp [intOf]; omega
            · have hge : ¬ k4 < l.length := by have := Hsl.out; omega
              have hfull4 : (sortS l).take k4 = sortS l := List.take_of_length_le (by omega)
              rw [hfull4, HP.out, Int.sub_self]
              clear hfull4
              go_wp2_with fail
              go_roundw
              case rel => exact ⟨j + 1, by omega, by go_num, by assumption⟩
              case measure => simp [intOf]; omega
    · obtain ⟨hp1, hp2⟩ := hp
      obtain ⟨hn1, hn2⟩ := hnn
      obtain ⟨hu1, hu2⟩ := hu
      have hq1 := pk_range p 40 (by omega)
      have hq2 := pk_range n 999 (by omega)
      have hq3 := pk_range u 1500 (by omega)
      obtain ⟨hq11, hq12⟩ := hq1
      obtain ⟨hq21, hq22⟩ := hq2
      obtain ⟨hq31, hq32⟩ := hq3
      go_wp2_with (first | (go_at_call 15; refine (f15 _ _ _ (by omega) (by omega) (by omega) (by omega)).mono ?_; rintro e w' ⟨rfl, rfl⟩))
      refine (f16 A' l cv (pk p 40) (1 + pk n 999) (pk u 1500) _ hcv1 (by simpa [maxLen] using hcv2) (hL8.to hbr) ⟨by omega, by omega⟩).mono ?_
      rintro e w9 ⟨rfl, hb9⟩
      obtain ⟨hx1, hx2, hx3⟩ := next_ok l (pk p 40) (1 + pk n 999) (pk u 1500) hok ⟨hq11, by omega⟩ ⟨by omega, by omega⟩ ⟨hq31, by omega⟩
      rw [hx1]
      simp only [nextV]
      have hL9 := hL8.to (bthen hbr hb9)
      have hb19 := bthen hb18 (bthen hbr hb9)
      have HX := hide hx3
      clear hx1 hx3 hL8 hA8 hbr hb9 hb18 hok
      have hz := Blk.new w9 24 [.int .i64 (nextAt l (pk u 1500)), .int .i64 (pk p 40), .int .i64 (1 + pk n 999)]
      have q := balloc (Below.refl w9.heap.size w9) (.cells #[.int .i64 (nextAt l (pk u 1500)), .int .i64 (pk p 40), .int .i64 (1 + pk n 999)] 24)
      have hLz := hL9.to q
      have hbz := bthen hb19 q
      have hcu : (nextAt l (pk u 1500) < pk u 1500) = False := by simp; exact hx2.1
      have hsv := hx2.2
      generalize nextAt l (pk u 1500) = at' at *
      go_wp2_with fail
      refine (f20v (s := (at', pk p 40, 1 + pk n 999)) hsv _).mono ?_
      rintro e wa ⟨rfl, hba⟩
      have hza := hz.below hba hz.lt
      have hLa := hLz.to hba
      have hbza := bthen hbz hba
      have hlta := hza.lt
      clear hLz hbz hz q hba hL9 hb19
      obtain ⟨x0, x1, x2, _, _, _⟩ := hza.all3
      go_wp2_with fail
      go_loopw [28] (fun i wr => ∃ j : Nat, j ≤ l.length ∧ i = .int .i64 j ∧ Below wa.heap.size wa wr) (fun i _ => l.length - (intOf i).toNat)
      case atStart => exact ⟨0, Nat.zero_le _, rfl, Below.refl _ _⟩
      case round =>
        obtain ⟨j5, hj5, rfl, hb5⟩ := hrel
        by_cases hlt5 : j5 < l.length
        · obtain ⟨b, off, rfl, _, _⟩ := hLa.2 (by omega)
          obtain ⟨hs0, hs1, hs2⟩ := hLa.bw3 hlt5
          have hji5 : (j5 : Int) < (l.length : Int) := by omega
          have hj05 : (0 : Int) ≤ (j5 : Int) := by omega
          have y0 : ∀ x : BW wa, x.val.cell? ⟨w9.heap.size, 0, none⟩ = some (.int .i64 at') := fun x => (hza.below x.ok hlta).all3.1
          have y1 : ∀ x : BW wa, x.val.cell? ⟨w9.heap.size, 1, none⟩ = some (.int .i64 (pk p 40)) := fun x => (hza.below x.ok hlta).all3.2.1
          have y2 : ∀ x : BW wa, x.val.cell? ⟨w9.heap.size, 2, none⟩ = some (.int .i64 (1 + pk n 999)) := fun x => (hza.below x.ok hlta).all3.2.2.1
          have hbf := HX.out l[j5] (List.getElem_mem hlt5)
          go_wp2_with fail
          refine wp_region_bw wa (by assumption) (by kernel_rfl) (by kernel_rfl) ?_
          repeat (go_big_quiet_step ((go_at_call 18; exact bw_call (f18v (t := (at', pk p 40, 1 + pk n 999)) hbf _))))
          refine wpQuiet_nil ?_
          intro wb hbwb
          go_wp2_with fail
          go_roundw
          case rel => exact ⟨j5 + 1, by omega, by go_num, by assumption⟩
          case measure => simp [intOf]; omega
        · go_wp2_with fail
          go_ret
          exact ⟨rfl, bthen hbza hb5⟩
end Go.Proofs.Ytenhghkiapkejaa
