/- Contracts of the reference's Valid, Before, Next. -/
import Derived.Test.YtenhghkiapkejaaW6
import Derived.Test.YtenhghkiapkejaaSortP
import Derived.Test.YtenhghkiapkejaaRt
import Derived.Deep.RegionHeld3
namespace Go.Proofs.Ytenhghkiapkejaa
open Go.RowKit
theorem f21 (s : I3) (w : World) :
    Calls Try.prog 21 #[.agg #[.int .i64 s.1, .int .i64 s.2.1, .int .i64 s.2.2]] w fun e w' => e = .returned (.bool (stVal s)) ∧ Below w.heap.size w w' := by
  obtain ⟨a, p, n⟩ := s
  go_enter Try.func21, Try.ntmps21
  go_wp2
  all_goals
    go_ret
    exact ⟨ret_bool (by rw [Bool.eq_iff_iff]; simp only [stVal, inB, Bool.and_eq_true, decide_eq_true_eq]; first | omega | (simp only [Bool.false_eq_true, false_iff]; omega)), balloc (Below.refl _ _) _⟩
theorem f19 (s t : I3) (w : World) :
    Calls Try.prog 19 #[.agg #[.int .i64 s.1, .int .i64 s.2.1, .int .i64 s.2.2], .agg #[.int .i64 t.1, .int .i64 t.2.1, .int .i64 t.2.2]] w fun e w' => e = .returned (.bool (bef s t)) ∧ Below w.heap.size w w' := by
  obtain ⟨a, p, n⟩ := s
  obtain ⟨b, q, m⟩ := t
  have hd : bef (a, p, n) (b, q, m) = if (a != b) then decide (a < b) else if (p != q) then decide (p < q) else decide (n < m) := by
    have : ∀ x y : I3, bef x y = decide (x.1 < y.1 ∨ x.1 = y.1 ∧ (x.2.1 < y.2.1 ∨ x.2.1 = y.2.1 ∧ x.2.2 < y.2.2)) := fun x y => by
      unfold bef; exact decide_eq_decide.2 (cmpS_neg x y)
    rw [this]
    simp only [bne_iff_ne, ne_eq]
    split
    · rw [decide_eq_decide]; omega
    · split <;> (rw [decide_eq_decide]; omega)
  have HD := hide hd
  clear hd
  have hb0 := fun A B => balloc (balloc (Below.refl w.heap.size w) A) B
  cases h1 : (a != b)
  · cases h2 : (p != q)
    · go_enter Try.func19, Try.ntmps19
      go_wp2
      go_ret
      exact ⟨ret_bool (by rw [HD.out, h1, h2]; rfl), hb0 _ _⟩
    · go_enter Try.func19, Try.ntmps19
      go_wp2
      go_ret
      exact ⟨ret_bool (by rw [HD.out, h1, h2]; rfl), hb0 _ _⟩
  · go_enter Try.func19, Try.ntmps19
    go_wp2
    go_ret
    exact ⟨ret_bool (by rw [HD.out, h1]; rfl), hb0 _ _⟩
theorem f21v {s : I3} {b : Bool} (h : stVal s = b) (w : World) :
    Calls Try.prog 21 #[.agg #[.int .i64 s.1, .int .i64 s.2.1, .int .i64 s.2.2]] w fun e w' => e = .returned (.bool b) ∧ Below w.heap.size w w' := by
  subst h; exact f21 s w
theorem f19v {s t : I3} {b : Bool} (h : bef s t = b) (w : World) :
    Calls Try.prog 19 #[.agg #[.int .i64 s.1, .int .i64 s.2.1, .int .i64 s.2.2], .agg #[.int .i64 t.1, .int .i64 t.2.1, .int .i64 t.2.2]] w fun e w' => e = .returned (.bool b) ∧ Below w.heap.size w w' := by
  subst h; exact f19 s t w
set_option maxHeartbeats 400000 in
/-- ref's Next -/
theorem f17 (A : Option Addr) (l : List I3) (c : Nat) (p n t : Int) (w : World) (hn : l.length ≤ c) (hc : c ≤ 9223372036854775807) (hr : SlR w w.heap.size 3 A l.length (l.flatMap c3)) (ht : wf64 t) :
    Calls Try.prog 17 #[.slice A l.length c, .int .i64 p, .int .i64 n, .int .i64 t] w fun e w' => e = .returned (nextV (nextS l p n t)) ∧ Below w.heap.size w w' := by
  obtain ⟨ht1, ht2⟩ := ht
  go_enter Try.func17, Try.ntmps17
  go_wp2
  go_loopw [11] (fun i wr => ∃ (k : Nat) (m : Int), k ≤ l.length ∧ i = .int .i64 k ∧ nextAt (l.take k) t = m ∧ (l.take k).all stVal = true ∧ -9223372036854775808 ≤ m ∧ m ≤ 9223372036854775807 ∧
      Blk wr w.heap.size 24 [.int .i64 0, .int .i64 0, .int .i64 0] ∧ Blk wr (w.heap.size + 1) 24 [.int .i64 m, .int .i64 p, .int .i64 n] ∧
      Below w.heap.size w wr) (fun i _ => l.length - (intOf i).toNat)
  case atStart => 
    exact ⟨0, t, Nat.zero_le _, rfl, rfl, rfl, ht1, ht2, (Blk.new w 24 [.int .i64 0, .int .i64 0, .int .i64 0]).alloc _, by simpa using Blk.new (w.alloc _) 24 [.int .i64 t, .int .i64 p, .int .i64 n], balloc (balloc (Below.refl _ _) _) _⟩
  case round =>
    obtain ⟨k, m, hk, rfl, hm, hall, hm1, hm2, hq, hy, hb⟩ := hrel
    by_cases hlt : k < l.length
    · obtain ⟨b, off, rfl, hbb, hx0, hx1, hx2⟩ := hr.at3 hb hlt
      have H := hide (And.intro hm (And.intro hall (And.intro (nextAt_snoc l t k hlt) (List.take_succ_eq_append_getElem hlt))))
      have HG := hide (fun (hf : l.all stVal = true) => List.all_eq_true.1 hf _ (List.getElem_mem hlt))
      have hki : (k : Int) < (l.length : Int) := by omega
      have hk0 : (0 : Int) ≤ (k : Int) := by omega
      clear hr hm hall
      generalize l[k] = s at *
      have hq' := hide hq
      have hy' := hide hy
      have hql := hq.lt
      have hyl := hy.lt
      by_cases hv : stVal s = true
      · have hs0 : 0 ≤ s.1 ∧ s.1 ≤ 1000000 := by simp [stVal, inB] at hv; omega
        obtain ⟨hs01, hs02⟩ := hs0
        clear hq hy
        go_wp2_with fail
        refine (f21v hv _).mono ?_
        rintro e w1 ⟨rfl, hb1⟩
        have hq := hq'.out.below hb1 hql
        have hy := hy'.out.below hb1 hyl
        obtain ⟨y0, y1, y2, y3, y4, y5⟩ := hy.all3
        have hb2 := bthen hb hb1
        have hbb2 : b < w1.heap.size := by have := hb.size; have := hb1.size; omega
        have hx0' : w1.cell? ⟨b, off + k * 3, none⟩ = some (.int .i64 s.1) := (hb1.cell (p := ⟨b, _, none⟩) (by have := hb.size; simp; omega)).trans hx0
        have hsl1 := hy.lt
        have HB := hide (And.intro hb2 (And.intro hq hy))
        clear hb1 hq hy hb2 hx0 hx1 hx2
        have hmx : max m (s.1 + 1) = if m < s.1 + 1 then s.1 + 1 else m := by split <;> omega
        have HM := hide hmx
        clear hmx
        go_wp2_with fail
        go_region
        go_wp2_with fail
        all_goals
          go_roundw
          case rel =>
            obtain ⟨hb2, hq, hy⟩ := HB.out
            obtain ⟨g1, g2, g3, g4⟩ := H.out
            refine ⟨k + 1, max m (s.1 + 1), by omega, by go_num, by rw [g3, g1], ?_, by omega, by omega, ?_, ?_, ?_⟩
            · rw [g4, List.all_append, g2]
              simpa using hv
            · first | exact (hq.other (by simp) _).drew | exact hq.drew.other (by simp) _
            · have hz := hy.set 0 (.int .i64 (if m < s.1 + 1 then s.1 + 1 else m))
              rw [HM.out]
              first | exact hz.drew | exact hz
            · first | exact bdrew (bset hb2 (by simp) _) | exact bset (bdrew hb2) (by simp) _
          case measure => simp [intOf]; omega
      · have hv' : stVal s = false := by simpa using hv
        clear hq hy hv
        go_wp2_with fail
        refine (f21v hv' _).mono ?_
        rintro e w1 ⟨rfl, hb1⟩
        have hq := hq'.out.below hb1 hql
        obtain ⟨y0, y1, y2, y3, y4, y5⟩ := hq.all3
        have hb2 := bthen hb hb1
        clear hb1 hx0 hx1 hx2
        go_wp2_with fail
        refine bodyPost_ret (v := .tuple #[.agg #[.int .i64 0, .int .i64 0, .int .i64 0], .int .i64 60]) (by simp [results, Try.results17, go_sem, y0, y1, y2]) rfl ⟨?_, bset (bset (bset hb2 (by simp) _) (by simp) _) (by simp) _⟩
        have hno : ¬ l.all stVal = true := fun hf => by have := HG.out hf; rw [hv'] at this; cases this
        simp [nextS, nextV, hno]
    · obtain rfl : k = l.length := by omega
      rw [List.take_length] at hm hall
      have H := hide (And.intro hm hall)
      have hq' := hide hq
      have hy' := hide hy
      have hql := hq.lt
      have hyl := hy.lt
      obtain ⟨y0, y1, y2, _, _, _⟩ := hy.all3
      clear hm hall hr hq hy
      by_cases hv : stVal (m, p, n) = true
      · go_wp2_with fail
        refine (f21v (s := (m, p, n)) hv _).mono ?_
        rintro e w1 ⟨rfl, hb1⟩
        have hq := hq'.out.below hb1 (by omega)
        have hy := hy'.out.below hb1 (by omega)
        obtain ⟨z0, z1, z2, z3, z4, z5⟩ := hq.all3
        obtain ⟨x0, x1, x2, _, _, _⟩ := hy.all3
        have hb2 := bthen hb hb1
        clear hb1 y0 y1 y2
        go_wp2_with fail
        refine bodyPost_ret (v := .tuple #[.agg #[.int .i64 m, .int .i64 p, .int .i64 n], .int .i64 0]) (by simp [results, Try.results17, go_sem, z0, z1, z2]) rfl ⟨?_, bset (bset (bset hb2 (by simp) _) (by simp) _) (by simp) _⟩
        obtain ⟨g1, g2⟩ := H.out
        simp [nextS, nextV, g1, g2, hv]
      · have hv' : stVal (m, p, n) = false := by simpa using hv
        clear hv
        go_wp2_with fail
        refine (f21v (s := (m, p, n)) hv' _).mono ?_
        rintro e w1 ⟨rfl, hb1⟩
        have hq := hq'.out.below hb1 (by omega)
        obtain ⟨z0, z1, z2, z3, z4, z5⟩ := hq.all3
        have hb2 := bthen hb hb1
        clear hb1 y0 y1 y2
        go_wp2_with fail
        refine bodyPost_ret (v := .tuple #[.agg #[.int .i64 0, .int .i64 0, .int .i64 0], .int .i64 60]) (by simp [results, Try.results17, go_sem, z0, z1, z2]) rfl ⟨?_, bset (bset (bset hb2 (by simp) _) (by simp) _) (by simp) _⟩
        obtain ⟨g1, g2⟩ := H.out
        simp [nextS, nextV, g1, hv']
end Go.Proofs.Ytenhghkiapkejaa
