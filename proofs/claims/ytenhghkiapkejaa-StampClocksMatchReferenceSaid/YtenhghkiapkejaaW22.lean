/- The walk of StampWhen, over the contract of sane. -/
import Derived.Test.YtenhghkiapkejaaW18
namespace Go.Proofs.Ytenhghkiapkejaa
open Go.RowKit
theorem clk_sk (i : Nat) (x : I2) : inB (clk i x).2.1 (-30) 29 = true ∧ (clk i x).2.1 ≤ (clk i x).2.2 ∧ (clk i x).2.2 ≤ 68 ∧ (clk i x).1 = i := by
  have h1 := pk_range x.1 60 (by omega)
  have h2 := pk_range x.2 40 (by omega)
  rw [inB_iff]
  simp only [clk]
  refine ⟨⟨?_, ?_⟩, ?_, ?_, trivial⟩ <;> omega
theorem clocksFrom_sk : ∀ (i : Nat) (x : List I2), i + x.length ≤ 6 → skOk (i - 1) (clocksFrom i x) = true
  | _, [], _ => rfl
  | i, a :: x, h => by
    have hk := clk_sk i a
    have ih := clocksFrom_sk (i + 1) x (by simp at h; omega)
    simp only [clocksFrom, skOk, Bool.and_eq_true, decide_eq_true_eq, inB_iff] at hk ⊢
    simp only [List.length_cons] at h
    refine ⟨by omega, by omega, by omega, by omega, ?_⟩
    have e : (clk i a).1 = ((i + 1 : Nat) : Int) - 1 := by omega
    rw [e]
    exact ih
theorem clocks_sk (x : List I2) : skOk (-1) (clocks x) = true := by
  have := clocksFrom_sk 0 (x.take 6) (by rw [List.length_take]; omega)
  exact this
theorem clocks_le (x : List I2) : (clocks x).length ≤ 6 := by
  unfold clocks
  rw [clocksFrom_len, List.length_take]
  omega
def H10 : Prop := ∀ w : World, Calls Try.prog 10 #[] w fun e w' => e = .returned (.bool true) ∧ Below w.heap.size w w'
theorem whenS_ok {L : List I3} (hs : skOk (-1) L = true) {s : I3} (h : s ∈ L) {t : Int} (h0 : 0 ≤ t) (h1 : t ≤ 1000000) : whenS L s.1 t = some (t - s.2.2, t - s.2.1 + 1) := by
  unfold whenS
  rw [bndF_mem (-1) L hs s h]
  have : inB t 0 1000000 = true := inB_iff.2 ⟨h0, h1⟩
  simp [this, hs]
set_option maxRecDepth 100000 in
set_option maxHeartbeats 1000000 in
theorem f9 (h10 : H10) (A : Option Addr) (x : List I2) (c : Nat) (p t u : Int) (w : World) (hn : x.length ≤ c) (hc : c ≤ 9223372036854775807) (hw : ∀ s ∈ x, wf64 s.1 ∧ wf64 s.2) (hp : wf64 p) (ht : wf64 t) (hu : wf64 u)
    (hr : SlR w w.heap.size 2 A x.length (x.flatMap c2)) :
    Calls Try.prog 9 #[.slice A x.length c, .int .i64 p, .int .i64 t, .int .i64 u] w fun e w' => e = .returned (.bool true) ∧ Below w.heap.size w w' := by
  obtain ⟨hp1, hp2⟩ := hp
  obtain ⟨ht1, ht2⟩ := ht
  obtain ⟨hu1, hu2⟩ := hu
  go_enter Try.func9, Try.ntmps9
  go_wp2_with fail
  refine (h10 _).mono ?_
  rintro e w1 ⟨rfl, hb1⟩
  go_wp2_with fail
  refine (f22 A x c _ hn hc hw (hr.to hb1)).mono ?_
  rintro e w2 ⟨v, rfl, hown, hb2⟩
  obtain ⟨A', cv, rfl, hcv1, hcv2, hL⟩ := SlR.of_own hown
  have hb12 := bthen hb1 hb2
  have hsk := clocks_sk x
  have hle := clocks_le x
  clear hown hr hw hb1 hb2 hn
  generalize clocks x = L at *
  rcases Nat.eq_zero_or_pos L.length with h0 | h0
  · have hnil : L = [] := List.eq_nil_of_length_eq_zero h0
    subst hnil
    go_wp2_with fail
    refine (f29 A' [] cv 0 5 _ hcv1 (by simpa [maxLen] using hcv2) hL).mono ?_
    rintro e w3 ⟨rfl, hb3⟩
    have hwv : whenV (whenS [] 0 5) = .tuple #[.agg #[.int .i64 0, .int .i64 0], .int .i64 60] := by rfl
    rw [hwv]
    go_wp2
    go_ret
    exact ⟨rfl, balloc (bthen hb12 hb3) _⟩
  · have hpk := pk_range p L.length (by omega)
    obtain ⟨hk1, hk2⟩ := hpk
    have hct := pk_range t 1000 (by omega)
    have hcu := pk_range u 1000 (by omega)
    obtain ⟨hct1, hct2⟩ := hct
    obtain ⟨hcu1, hcu2⟩ := hcu
    have hkl : (pk p (L.length : Int)).toNat < L.length := by omega
    obtain ⟨b, off, rfl, hbb, hx0, hx1, hx2⟩ := hL.at3 (Below.refl _ _) hkl
    have hm : L[(pk p (L.length : Int)).toNat] ∈ L := List.getElem_mem hkl
    have hbd := skOk_get hsk _ hkl
    have hle2 := skOk_le (-1) L hsk _ hm
    have H := hide (And.intro hsk hm)
    clear hsk hm
    generalize L[(pk p (L.length : Int)).toNat] = s at *
    obtain ⟨q, lo, hi⟩ := s
    simp only [] at hbd hle2 hx0 hx1 hx2
    obtain ⟨hbd1, hbd2, hbd3, hbd4, hbd5, hbd6⟩ := hbd
    go_wp2_with (first | (go_at_call 15; refine (f15 _ _ _ (by omega) (by omega) (by omega) (by omega)).mono ?_; rintro e w' ⟨rfl, rfl⟩))
    have hz1 := Blk.new w2 41 [.int .i64 q, .int .i64 lo, .int .i64 hi]
    have q3 := balloc (Below.refl w2.heap.size w2) (.cells #[.int .i64 q, .int .i64 lo, .int .i64 hi] 41)
    have hL3 := hL.to q3
    refine (f29 _ L cv q (pk t 1000) _ hcv1 (by simpa [maxLen] using hcv2) hL3).mono ?_
    rintro e w4 ⟨rfl, hb4⟩
    rw [whenS_ok H.out.1 H.out.2 hct1 (by omega)]
    simp only [whenV]
    have q4 := bthen q3 hb4
    have hL4 := hL.to q4
    have hz4 := hz1.below hb4 hz1.lt
    have hb14 := bthen hb12 q4
    clear hL3 hz1 hb4 q3 hx0 hx1 hx2
    have hzl := hz4.lt
    obtain ⟨x0, x1, x2, _, _, _⟩ := hz4.all3
    go_wp2_with fail
    have hy1 := Blk.new w4 56 [.int .i64 (pk t 1000 - hi), .int .i64 (pk t 1000 - lo + 1)]
    have q5 := balloc (Below.refl w4.heap.size w4) (.cells #[.int .i64 (pk t 1000 - hi), .int .i64 (pk t 1000 - lo + 1)] 56)
    have hL5 := hL4.to q5
    refine (f29 _ L cv q (pk t 1000 + pk u 1000) _ hcv1 (by simpa [maxLen] using hcv2) hL5).mono ?_
    rintro e w6 ⟨rfl, hb6⟩
    rw [whenS_ok H.out.1 H.out.2 (by omega) (by omega)]
    simp only [whenV]
    have q6 := bthen q5 hb6
    have hz6 := hz4.below q6 hz4.lt
    have hy6 := hy1.below hb6 hy1.lt
    have hb16 := bthen hb14 q6
    clear hL5 hL4 hL hy1 hb6 q5 x0 x1 x2 hz4
    have hzl6 := hz6.lt
    have hyl6 := hy6.lt
    obtain ⟨x0, x1, x2, _, _, _⟩ := hz6.all3
    obtain ⟨y0, y1, _, _⟩ := hy6.all2
    generalize pk t 1000 = tc at *
    generalize pk u 1000 = uc at *
    have e1 : (tc - lo + 1 - (tc - hi) != hi - lo + 1) = false := by simp; omega
    have e2 : (tc + uc - hi - (tc - hi) != uc) = false := by simp; omega
    have e3 : (tc + uc - lo + 1 - (tc - lo + 1) != uc) = false := by simp; omega
    have e4 : (tc - (tc - hi) == hi) = true := by simp; omega
    have e5 : (tc - (tc - lo + 1 - 1) == lo) = true := by simp; omega
    go_wp2_with fail
    go_ret
    exact ⟨ret_bool (by simp; omega), balloc hb16 _⟩
end Go.Proofs.Ytenhghkiapkejaa
