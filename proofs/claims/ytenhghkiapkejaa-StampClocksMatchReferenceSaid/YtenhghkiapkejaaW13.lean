/- Contract of Order. -/
import Derived.Test.YtenhghkiapkejaaW12
namespace Go.Proofs.Ytenhghkiapkejaa
open Go.RowKit
def ordI (d lo hi : Int) : Int := if d < lo then -1 else if hi < d then 1 else 0
def Gap (l : List I4) (p q : Int) (x y g : I2) : Prop := (∃ n, Path l p q n ∧ g = (-n, -n)) ∨ ((∀ n, ¬ Path l p q n) ∧ g = (x.1 - y.2, x.2 - y.1))
def OrdBad (L : List I3) (l : List I4) (a b : I3) : Prop :=
  stVal a = false ∨ stVal b = false ∨ proper L l = false ∨ (∃ k, k < l.length ∧ TightBad L (l.take (k + 1))) ∨ ∃ out, TightOk L l out ∧ (bndF out a.2.1 = none ∨ bndF out b.2.1 = none)
def OrdOk (L : List I3) (l : List I4) (a b : I3) (r : Int) : Prop :=
  stVal a = true ∧ stVal b = true ∧ proper L l = true ∧ ∃ out x y g, TightOk L l out ∧ bndF out a.2.1 = some x ∧ bndF out b.2.1 = some y ∧ Gap l a.2.1 b.2.1 x y g ∧ r = ordI (a.1 - b.1) g.1 g.2
def OrderPost (L : List I3) (l : List I4) (a b : I3) (w : World) (e : Ending) (w' : World) : Prop :=
  Below w.heap.size w w' ∧ ((OrdBad L l a b ∧ e = .returned (.tuple #[.int .i64 0, .int .i64 60])) ∨ ∃ r, OrdOk L l a b r ∧ e = .returned (.tuple #[.int .i64 r, .int .i64 0]))
theorem bndF_ex {L : List I3} {p : Int} {x : I2} (h : bndF L p = some x) : ∃ s ∈ L, s.1 = p ∧ x = (s.2.1, s.2.2) := by
  induction L with
  | nil => simp [bndF] at h
  | cons s L ih =>
    simp only [bndF] at h
    cases hl : bndF L p with
    | some c =>
      rw [hl] at h
      simp at h
      subst h
      obtain ⟨t, ht, h1, h2⟩ := ih hl
      exact ⟨t, List.mem_cons_of_mem _ ht, h1, h2⟩
    | none =>
      rw [hl] at h
      by_cases hp : s.1 = p
      · simp [hp] at h; exact ⟨s, by simp, hp, h.symm⟩
      · simp [hp] at h
theorem tight_ex {L : List I3} {l : List I4} {out : List I3} (h : TightOk L l out) {p : Int} {x : I2} (hx : bndF out p = some x) : ∃ s ∈ L, s.1 = p ∧ TOne L l s (p, x.1, x.2) := by
  obtain ⟨t, ht, h1, h2⟩ := bndF_ex hx
  obtain ⟨k, hk, rfl⟩ := List.getElem_of_mem ht
  have := h.2 k (by rw [← h.1]; exact hk) hk
  refine ⟨_, List.getElem_mem (by rw [← h.1]; exact hk), by rw [← h1]; exact this.1.symm, ?_⟩
  subst h2
  have e : out[k] = (p, out[k].2.1, out[k].2.2) := by rw [← h1]
  rw [← e]
  exact this
theorem tight_bd {L : List I3} {l : List I4} {out : List I3} (hs : skOk (-1) L = true) (h : TightOk L l out) {p : Int} {x : I2} (hx : bndF out p = some x) : -100000 ≤ x.1 ∧ x.1 ≤ x.2 ∧ x.2 ≤ 100000 := by
  obtain ⟨s, hm, _, _, _, h1, h2, h3⟩ := tight_ex h hx
  obtain ⟨k, hk, rfl⟩ := List.getElem_of_mem hm
  have := skOk_get hs k hk
  have := h1.1
  have := h2.1
  simp only [] at *
  omega
set_option maxRecDepth 100000 in
set_option maxHeartbeats 1000000 in
theorem f31 (A B : Option Addr) (L : List I3) (l : List I4) (a b : I3) (c d : Nat) (w : World) (hn : L.length ≤ c) (hc : c ≤ 9223372036854775807) (hm : l.length ≤ d) (hd : d ≤ 9223372036854775807)
    (hr : SlR w w.heap.size 3 A L.length (L.flatMap c3)) (hs : SlR w w.heap.size 4 B l.length (l.flatMap c4)) :
    Calls Try.prog 31 #[.slice A L.length c, .slice B l.length d, .agg #[.int .i64 a.1, .int .i64 a.2.1, .int .i64 a.2.2], .agg #[.int .i64 b.1, .int .i64 b.2.1, .int .i64 b.2.2]] w (OrderPost L l a b w) := by
  have HO := hide (And.intro hr hs)
  clear hr hs
  go_enter Try.func31, Try.ntmps31
  go_wp2_with fail
  refine (f20 a _).mono ?_
  rintro e w1 ⟨rfl, hb1⟩
  have ka := (Blk.new w 24 [.int .i64 a.1, .int .i64 a.2.1, .int .i64 a.2.2]).alloc (.cells #[.int .i64 b.1, .int .i64 b.2.1, .int .i64 b.2.2] 24)
  have kb := Blk.new (w.alloc (.cells #[.int .i64 a.1, .int .i64 a.2.1, .int .i64 a.2.2] 24)) 24 [.int .i64 b.1, .int .i64 b.2.1, .int .i64 b.2.2]
  have ka1 := ka.below hb1 ka.lt
  have kb1 := kb.below hb1 kb.lt
  have hb01 := bthen (balloc (balloc (Below.refl _ _) _) _) hb1
  have hsz : (w.alloc (.cells #[.int .i64 a.1, .int .i64 a.2.1, .int .i64 a.2.2] 24)).heap.size = w.heap.size + 1 := by simp
  rw [hsz] at kb1
  clear ka kb hb1 hsz
  cases hva : stVal a with
  | false =>
    obtain ⟨x0, x1, x2, x3, x4, x5⟩ := kb1.all3
    go_wp2
    go_ret2
    exact ⟨hb01, .inl ⟨.inl hva, rfl⟩⟩
  | true =>
    obtain ⟨x0, x1, x2, x3, x4, x5⟩ := kb1.all3
    have hlt := kb1.lt
    go_wp2_with fail
    refine (f20 b _).mono ?_
    rintro e w2 ⟨rfl, hb2⟩
    have ka2 := ka1.below hb2 ka1.lt
    have kb2 := kb1.below hb2 kb1.lt
    have hb02 := bthen hb01 hb2
    clear ka1 kb1 hb2 hb01 x0 x1 x2 x3 x4 x5 hlt
    cases hvb : stVal b with
    | false =>
      go_wp2
      go_ret2
      exact ⟨hb02, .inl ⟨.inr (.inl hvb), rfl⟩⟩
    | true =>
      go_wp2_with fail
      refine (f24 A B L l c d _ hn hc hm hd (HO.out.1.to hb02) (HO.out.2.to hb02)).mono ?_
      rintro e w3 hpost
      rcases hpost with ⟨hp, rfl, hb3⟩ | ⟨hp, v, out, rfl, hown, htok, hb3⟩ | ⟨hp, k, rfl, hk, hbad, _, hb3⟩
      · have hb03 := bthen hb02 hb3
        clear hb3
        go_wp2
        go_ret2
        exact ⟨hb03, .inl ⟨.inr (.inr (.inl hp)), rfl⟩⟩
      · have ka3 := ka2.below hb3 ka2.lt
        have kb3 := kb2.below hb3 kb2.lt
        have hb03 := bthen hb02 hb3
        obtain ⟨A', cv, rfl, hcv1, hcv2, hslr⟩ := SlR.of_own hown
        have HH := hide (And.intro hp htok)
        clear ka2 kb2 hb3 hown htok hp hb02
        go_wp2_with fail
        refine (f45 A' out cv _ hcv1 hcv2 hslr).mono ?_
        rintro e w4 ⟨bm, rfl, hbm, him, hb4⟩
        have ka4 := ka3.below hb4 ka3.lt
        have kb4 := kb3.below hb4 kb3.lt
        have hb04 := bthen hb03 hb4
        have hba : w.heap.size < w4.heap.size := ka4.lt
        have hbb : w.heap.size + 1 < w4.heap.size := kb4.lt
        have hw3 := hb03.size
        clear ka3 kb3 hb4 hb03 hslr
        have hla := bpL_lookup out a.2.1
        have hlb := bpL_lookup out b.2.1
        obtain ⟨x0, x1, x2, x3, x4, x5⟩ := ka4.all3
        obtain ⟨y0, y1, y2, y3, y4, y5⟩ := kb4.all3
        have HK := hide (And.intro ka4 kb4)
        clear ka4 kb4
        cases hx : bndF out a.2.1 with
        | none =>
          rw [hx] at hla
          have HL := hide (And.intro hla hlb)
          clear hla hlb
          have HX := hide hx
          clear hx
          obtain ⟨lo, hi, hbl⟩ := bpL_get out b.2.1
          have HB := hide hbl
          clear hbl
          go_wp2_with (first | (at_lookup; refine wpList_lookup_im rfl _ _ 84 true rfl 3 88 _ Try.underlying84 Try.underlying3 (zv88 _) rfl him _ rfl (.tuple #[.agg #[.int .i64 0, .int .i64 0], .bool false]) (by rw [HL.out.1]; rfl) ?_) | (at_lookup; refine wpList_lookup_im rfl _ _ 84 true rfl 3 88 _ Try.underlying84 Try.underlying3 (zv88 _) rfl (him.alloc _) _ rfl _ HB.out ?_))
          go_ret2
          exact ⟨balloc (balloc hb04 _) _, .inl ⟨.inr (.inr (.inr (.inr ⟨out, HH.out.2, .inl HX.out⟩))), rfl⟩⟩
        | some x =>
          obtain ⟨xl, xh⟩ := x
          rw [hx] at hla
          simp only [Option.map_some] at hla
          cases hy : bndF out b.2.1 with
          | none =>
            rw [hy] at hlb
            have HL := hide (And.intro hla hlb)
            have HY := hide hy
            clear hla hlb hx hy
            go_wp2_with (first | (at_lookup; refine wpList_lookup_im rfl _ _ 84 true rfl 3 88 _ Try.underlying84 Try.underlying3 (zv88 _) rfl him _ rfl (.tuple #[.agg #[.int .i64 xl, .int .i64 xh], .bool true]) (by rw [HL.out.1]; rfl) ?_) | (at_lookup; refine wpList_lookup_im rfl _ _ 84 true rfl 3 88 _ Try.underlying84 Try.underlying3 (zv88 _) rfl (him.alloc _) _ rfl (.tuple #[.agg #[.int .i64 0, .int .i64 0], .bool false]) (by rw [HL.out.2]; rfl) ?_))
            go_ret2
            exact ⟨balloc (balloc hb04 _) _, .inl ⟨.inr (.inr (.inr (.inr ⟨out, HH.out.2, .inr HY.out⟩))), rfl⟩⟩
          | some y =>
            obtain ⟨yl, yh⟩ := y
            rw [hy] at hlb
            simp only [Option.map_some] at hlb
            obtain ⟨hsk, h60, hmo⟩ := proper_sk HH.out.1
            have qx := tight_bd hsk HH.out.2 hx
            have qy := tight_bd hsk HH.out.2 hy
            simp only [] at qx qy
            obtain ⟨qx1, qx2, qx3⟩ := qx
            obtain ⟨qy1, qy2, qy3⟩ := qy
            have hmt : ∀ m ∈ l, mtOk m := fun m h => meetOk_mt (hmo m h)
            have hfr := tight_ex HH.out.2 hx
            have HL := hide (And.intro hla (And.intro hlb (And.intro hx (And.intro hy (And.intro hmt hfr)))))
            clear hla hlb hx hy hmt hfr hmo hsk
            have hba1 : w.heap.size < w4.heap.size + 1 := by omega
            have hba2 : w.heap.size < w4.heap.size + 1 + 1 := by omega
            have hbb1 : w.heap.size + 1 < w4.heap.size + 1 := by omega
            have hbb2 : w.heap.size + 1 < w4.heap.size + 1 + 1 := by omega
            go_wp2_with (first | (at_lookup; refine wpList_lookup_im rfl _ _ 84 true rfl 3 88 _ Try.underlying84 Try.underlying3 (zv88 _) rfl him _ rfl (.tuple #[.agg #[.int .i64 xl, .int .i64 xh], .bool true]) (by rw [HL.out.1]; rfl) ?_) | (at_lookup; refine wpList_lookup_im rfl _ _ 84 true rfl 3 88 _ Try.underlying84 Try.underlying3 (zv88 _) rfl (him.alloc _) _ rfl (.tuple #[.agg #[.int .i64 yl, .int .i64 yh], .bool true]) (by rw [HL.out.2.1]; rfl) ?_))
            have hg2 := Blk.new ((w4.alloc (.cells #[.int .i64 xl, .int .i64 xh] 88)).alloc (.cells #[.int .i64 yl, .int .i64 yh] 88)) 88 [.int .i64 (xl - yh), .int .i64 (xh - yl)]
            have ka5 := ((HK.out.1.alloc (.cells #[.int .i64 xl, .int .i64 xh] 88)).alloc (.cells #[.int .i64 yl, .int .i64 yh] 88)).alloc (.cells #[.int .i64 (xl - yh), .int .i64 (xh - yl)] 88)
            have kb5 := ((HK.out.2.alloc (.cells #[.int .i64 xl, .int .i64 xh] 88)).alloc (.cells #[.int .i64 yl, .int .i64 yh] 88)).alloc (.cells #[.int .i64 (xl - yh), .int .i64 (xh - yl)] 88)
            have hb05 := balloc (balloc (balloc hb04 (.cells #[.int .i64 xl, .int .i64 xh] 88)) (.cells #[.int .i64 yl, .int .i64 yh] 88)) (.cells #[.int .i64 (xl - yh), .int .i64 (xh - yl)] 88)
            refine (f51 a.2.1 B l d _ hm hd HL.out.2.2.2.2.1 h60 (HO.out.2.to hb05)).mono ?_
            rintro e w6 hpost
            rcases hpost with ⟨bd, D, rfl, hbd, himd, hD, hb6⟩ | ⟨rfl, hbad, hb6⟩
            · have hg6 := hg2.below hb6 hg2.lt
              have ka6 := ka5.below hb6 ka5.lt
              have kb6 := kb5.below hb6 kb5.lt
              have hb06 := bthen hb05 hb6
              have hsz : ((w4.alloc (.cells #[.int .i64 xl, .int .i64 xh] 88)).alloc (.cells #[.int .i64 yl, .int .i64 yh] 88)).heap.size = w4.heap.size + 1 + 1 := by simp
              rw [hsz] at hg6
              have hgl : w4.heap.size + 1 + 1 < w6.heap.size := hg6.lt
              have hal : w.heap.size < w6.heap.size := ka6.lt
              have hbl : w.heap.size + 1 < w6.heap.size := kb6.lt
              clear ka5 kb5 hg2 hb05 hb6 hsz hbd him
              obtain ⟨z0, z1, z2, z3⟩ := hg6.all2
              obtain ⟨x0, x1, x2, x3, x4, x5⟩ := ka6.all3
              obtain ⟨y0, y1, y2, y3, y4, y5⟩ := kb6.all3
              have hls := dv_lookup b.2.1 D
              have hva' := hva
              have hvb' := hvb
              simp only [stVal, Bool.and_eq_true, inB_iff] at hva' hvb'
              obtain ⟨⟨ha1, ha2⟩, -, -⟩ := hva'
              obtain ⟨⟨hc1, hc2⟩, -, -⟩ := hvb'
              cases hq : D.lookup b.2.1 with
              | none =>
                rw [hq] at hls
                have hnp : ∀ n, ¬ Path l a.2.1 b.2.1 n := fun n h => by have := (hD.2.1 b.2.1 n).2 h; rw [hq] at this; cases this
                have HM := hide (And.intro hls (And.intro hD hnp))
                clear hls hD hnp hq
                go_wp2_with (at_lookup; refine wpList_lookup_im rfl _ _ 92 true rfl 3 3 _ Try.underlying92 Try.underlying3 (zv3 _) rfl himd _ rfl (.tuple #[.int .i64 0, .bool false]) (by rw [HM.out.1]; rfl) ?_)
                all_goals
                  go_ret2
                  refine ⟨hb06, .inr ⟨_, ?_, rfl⟩⟩
                  refine ⟨hva, hvb, HH.out.1, out, (xl, xh), (yl, yh), (xl - yh, xh - yl), HH.out.2, HL.out.2.2.1, HL.out.2.2.2.1, .inr ⟨HM.out.2.2, rfl⟩, ?_⟩
                  simp only [ordI]
                  (split <;> try split) <;> omega
              | some n =>
                rw [hq] at hls
                have hnb := hD.2.2 b.2.1 n hq
                obtain ⟨hn1, hn2⟩ := hnb
                have hnp := (hD.2.1 b.2.1 n).1 hq
                have HM := hide (And.intro hls (And.intro hD hnp))
                clear hls hD hnp hq
                have hne1 : w.heap.size ≠ w4.heap.size + 1 + 1 := by omega
                have hne2 : w.heap.size + 1 ≠ w4.heap.size + 1 + 1 := by omega
                go_wp2_with (at_lookup; refine wpList_lookup_im rfl _ _ 92 true rfl 3 3 _ Try.underlying92 Try.underlying3 (zv3 _) rfl himd _ rfl (.tuple #[.int .i64 n, .bool true]) (by rw [HM.out.1]; rfl) ?_)
                all_goals
                  go_ret2
                  refine ⟨bset (bset hb06 (by simp; omega) _) (by simp; omega) _, .inr ⟨_, ?_, rfl⟩⟩
                  refine ⟨hva, hvb, HH.out.1, out, (xl, xh), (yl, yh), (-n, -n), HH.out.2, HL.out.2.2.1, HL.out.2.2.2.1, .inl ⟨n, HM.out.2.2, rfl⟩, ?_⟩
                  simp only [ordI]
                  (split <;> try split) <;> omega
            · obtain ⟨s, hs1, hs2, _, ⟨D, hD⟩, _⟩ := HL.out.2.2.2.2.2
              rw [hs2] at hD
              exact absurd hbad hD.not_bad
      · have hb03 := bthen hb02 hb3
        have HH := hide hbad
        clear hb3 hbad
        go_wp2
        go_ret2
        exact ⟨hb03, .inl ⟨.inr (.inr (.inr (.inl ⟨k, hk, HH.out⟩))), rfl⟩⟩
end Go.Proofs.Ytenhghkiapkejaa
