/- Contracts: slices.Clone of skews; Next. -/
import Derived.Test.YtenhghkiapkejaaW5
namespace Go.Proofs.Ytenhghkiapkejaa
open Go.RowKit
theorem SlR.news {w : World} {B k n : Nat} {A : Option Addr} {ad : Addr} {xs : List Value} (h : SlR w B k A n xs) (hA : A = some ad) : ∀ j u, xs[j]? = some u → w.cell? (ad.add j) = some u := by
  intro j u hu
  have hl : j < xs.length := (List.getElem?_eq_some_iff.1 hu).1
  have hn : 0 < n := by
    rcases Nat.eq_zero_or_pos n with h0 | h0
    · rw [h.1, h0] at hl; simp at hl
    · exact h0
  obtain ⟨b, off, e, hb, hc⟩ := h.2 hn
  rw [hA] at e
  injection e with e
  subst e
  have := hc j u hu
  have e : (⟨b, off, none⟩ : Addr).add j = ⟨b, off + j, none⟩ := by unfold Addr.add; split <;> simp_all
  rw [e]
  exact this
theorem c3_one {l : List I3} : ∀ u ∈ l.flatMap c3, u.oneCell' = true := by
  intro u hu
  obtain ⟨s, _, hs⟩ := List.mem_flatMap.1 hu
  simp only [c3, List.mem_cons, List.not_mem_nil, or_false] at hs
  rcases hs with rfl | rfl | rfl <;> simp [Value.oneCell']
theorem clone_news {w : World} (o : Obj) (ad : Addr) {xs : List Value} (h : ∀ j u, xs[j]? = some u → w.cell? (ad.add j) = some u) : ∀ j u, xs[j]? = some u → (w.alloc o).cell? (ad.add j) = some u := by
  intro j u hu
  have := h j u hu
  rw [World.cell?_alloc_lt w o _ (World.block_lt_of_cell? w _ this)]
  exact this
set_option maxRecDepth 100000 in
set_option maxHeartbeats 400000 in
theorem f58 (A : Option Addr) (l : List I3) (c : Nat) (w : World) (hn : l.length ≤ c) (_hc : c ≤ 9223372036854775807) (hsz : l.length * 24 ≤ 140737488355328) (hr : SlR w w.heap.size 3 A l.length (l.flatMap c3)) :
    Calls Try.prog 58 #[.slice A l.length c] w fun e w' => ∃ v, e = .returned v ∧ w'.ownsRow w.heap.size 41 3 v l.length (l.flatMap c3) ∧ Below w.heap.size w w' := by
  obtain ⟨i0, hi, hz0, hz1, hz2⟩ := info_parts Try.info41
  have hq := fun (w : World) (a : Option Addr) (n c : Nat) => Lib.run_eql_slice_nil (P := Try.prog) w 44 41 a n c 0 0 Try.underlying44
  cases A with
  | none =>
    have h0 : l = [] := by
      rcases Nat.eq_zero_or_pos l.length with h0 | h0
      · exact List.eq_nil_of_length_eq_zero h0
      · obtain ⟨b, off, e, _⟩ := hr.2 h0
        cases e
    subst h0
    go_enter Try.func58, Try.ntmps58
    go_wp2
    go_ret
    exact ⟨_, rfl, World.ownsRow_nil _ _ _ _, Below.refl _ _⟩
  | some ad =>
    have hnews := hr.news rfl
    have hone := c3_one (l := l)
    have hlen := flat_len c3 3 (fun _ => rfl) l
    have HH := hide (And.intro hnews (And.intro hone hlen))
    clear hr hnews hone hlen
    go_enter Try.func58, Try.ntmps58
    go_wp2_with (at_builtin; refine wpList_append_own _ rfl _ _ 44 rfl w.heap.size 41 i0 (.agg #[.int .i64 0, .int .i64 0, .int .i64 0]) 3 24 Try.underlying44 hi hz0 hz1 hz2 rfl (by decide) (.slice (some ⟨w.heap.size, 0, none⟩) 0 0) 0 [] rfl (World.ownsRow_made w #[] 0 (Nat.le_refl _) (Nat.zero_le _) rfl) ad l.length c (l.flatMap c3) rfl HH.out.2.2 (fun j u hu => clone_news _ ad HH.out.1 j u hu) HH.out.2.1 (by unfold maxLen; omega) (by omega) (by simp) ?_; intro v' w1 hown' hgrow _)
    go_ret
    refine ⟨_, rfl, by simpa using hown', bgrown (balloc (Below.refl _ _) _) hgrow (fun j e => ?_)⟩
    have : w.heap.size = j := by simpa [Value.ownBlock] using e
    omega

theorem nextAt_snoc (l : List I3) (c : Int) (k : Nat) (h : k < l.length) : nextAt (l.take (k + 1)) c = max (nextAt (l.take k) c) (l[k].1 + 1) := by
  unfold nextAt
  rw [List.take_succ_eq_append_getElem h, List.foldl_append]
  rfl
def nextV (o : Option I3) : Value :=
  match o with
  | some s => .tuple #[.agg #[.int .i64 s.1, .int .i64 s.2.1, .int .i64 s.2.2], .int .i64 0]
  | none => .tuple #[.agg #[.int .i64 0, .int .i64 0, .int .i64 0], .int .i64 60]
set_option maxHeartbeats 400000 in
theorem f16 (A : Option Addr) (l : List I3) (c : Nat) (p n t : Int) (w : World) (hn : l.length ≤ c) (hc : c ≤ 9223372036854775807) (hr : SlR w w.heap.size 3 A l.length (l.flatMap c3)) (ht : wf64 t) :
    Calls Try.prog 16 #[.slice A l.length c, .int .i64 p, .int .i64 n, .int .i64 t] w fun e w' => e = .returned (nextV (nextS l p n t)) ∧ Below w.heap.size w w' := by
  obtain ⟨ht1, ht2⟩ := ht
  go_enter Try.func16, Try.ntmps16
  go_wp2
  go_loopw [19] (fun i wr => ∃ (k : Nat) (m : Int), k ≤ l.length ∧ i = .int .i64 k ∧ nextAt (l.take k) t = m ∧ (l.take k).all stVal = true ∧ -9223372036854775808 ≤ m ∧ m ≤ 9223372036854775807 ∧
      Blk wr w.heap.size 24 [.int .i64 0, .int .i64 0, .int .i64 0] ∧ Blk wr (w.heap.size + 1) 24 [.int .i64 m, .int .i64 p, .int .i64 n] ∧
      Below w.heap.size w wr) (fun i _ => l.length - (intOf i).toNat)
  case atStart => 
    exact ⟨0, t, Nat.zero_le _, rfl, rfl, rfl, ht1, ht2, (Blk.new w 24 [.int .i64 0, .int .i64 0, .int .i64 0]).alloc _, by simpa using Blk.new (w.alloc _) 24 [.int .i64 t, .int .i64 p, .int .i64 n], balloc (balloc (Below.refl _ _) _) _⟩
  case round =>
    obtain ⟨k, m, hk, rfl, hm, hall, hm1, hm2, hq, hy, hb⟩ := hrel
    by_cases hlt : k < l.length
    · obtain ⟨b, off, rfl, hbb, hx0, hx1, hx2⟩ := hr.at3 hb hlt
      have H := hide (And.intro hm (And.intro hall (And.intro (nextAt_snoc l t k hlt) (List.take_succ_eq_append_getElem hlt))))
      have HG := hide (fun (hf : l.all stVal = true) => List.all_eq_true.1 hf _ (List.getElem_mem hlt))
      clear hr hm hall
      generalize l[k] = s at *
      obtain ⟨s0, s1, s2⟩ := s
      simp only [] at hx0 hx1 hx2
      have hq' := hide hq
      have hy' := hide hy
      have hql := hq.lt
      have hyl := hy.lt
      by_cases hv : stVal (s0, s1, s2) = true
      · have hs0 : 0 ≤ s0 ∧ s0 ≤ 1000000 := by simp [stVal, inB] at hv; omega
        obtain ⟨hs01, hs02⟩ := hs0
        clear hq hy
        go_wp2_with fail
        refine (f20 (s0, s1, s2) _).mono ?_
        rintro e w1 ⟨rfl, hb1⟩
        have hq := (hq'.out.alloc _).below hb1 (by simp; omega)
        have hy := (hy'.out.alloc _).below hb1 (by simp; omega)
        have hz := (Blk.new wr 24 [.int .i64 s0, .int .i64 s1, .int .i64 s2]).below hb1 (by simp)
        obtain ⟨y0, y1, y2, y3, y4, y5⟩ := hy.all3
        obtain ⟨z0, z1, z2, _, _, _⟩ := hz.all3
        have hb2 := bthen (balloc hb _) hb1
        have HB := hide (And.intro hb2 (And.intro hq hy))
        clear hb1 hq hy hz hb2 hx0 hx1 hx2
        go_wp2_with fail
        go_roundw
        case rel =>
          obtain ⟨hb2, hq, hy⟩ := HB.out
          obtain ⟨g1, g2, g3, g4⟩ := H.out
          refine ⟨k + 1, max m (s0 + 1), by omega, by go_num, by rw [g3, g1], ?_, by omega, by omega, hq.other (by simp) _, ?_, bset hb2 (by simp) _⟩
          · rw [g4, List.all_append, g2]
            simpa using hv
          · have := hy.set 0 (.int .i64 (if m < s0 + 1 then s0 + 1 else m))
            have e : max m (s0 + 1) = if m < s0 + 1 then s0 + 1 else m := by split <;> omega
            rw [e]
            exact this
        case measure => simp [intOf]; omega
      · have hv' : stVal (s0, s1, s2) = false := by simpa using hv
        clear hq hy hv
        go_wp2_with fail
        refine (f20 (s0, s1, s2) _).mono ?_
        rintro e w1 ⟨rfl, hb1⟩
        have hq := (hq'.out.alloc _).below hb1 (by simp; omega)
        obtain ⟨y0, y1, y2, y3, y4, y5⟩ := hq.all3
        have hb2 := bthen (balloc hb _) hb1
        clear hb1 hx0 hx1 hx2
        go_wp2_with fail
        refine bodyPost_ret (v := .tuple #[.agg #[.int .i64 0, .int .i64 0, .int .i64 0], .int .i64 60]) (by simp [results, Try.results16, go_sem, y0, y1, y2]) rfl ⟨?_, bset (bset (bset hb2 (by simp) _) (by simp) _) (by simp) _⟩
        have hno : ¬ l.all stVal = true := fun hf => by have := HG.out hf; rw [hv'] at this; cases this
        simp [nextS, nextV, hno]
    · obtain rfl : k = l.length := by omega
      rw [List.take_length] at hm hall
      have H := hide (And.intro hm hall)
      have hq' := hide hq
      have hy' := hide hy
      have hql := hq.lt
      have hyl := hy.lt
      obtain ⟨y0, y1, y2, _, _, _⟩ := hy.all3
      clear hm hall hr hq hy
      by_cases hv : stVal (m, p, n) = true
      · go_wp2_with fail
        refine (f20 (m, p, n) _).mono ?_
        rintro e w1 ⟨rfl, hb1⟩
        have hq := hq'.out.below hb1 (by omega)
        have hy := hy'.out.below hb1 (by omega)
        obtain ⟨z0, z1, z2, z3, z4, z5⟩ := hq.all3
        obtain ⟨x0, x1, x2, _, _, _⟩ := hy.all3
        have hb2 := bthen hb hb1
        clear hb1 y0 y1 y2
        go_wp2_with fail
        refine bodyPost_ret (v := .tuple #[.agg #[.int .i64 m, .int .i64 p, .int .i64 n], .int .i64 0]) (by simp [results, Try.results16, go_sem, z0, z1, z2]) rfl ⟨?_, bset (bset (bset hb2 (by simp) _) (by simp) _) (by simp) _⟩
        obtain ⟨g1, g2⟩ := H.out
        simp [nextS, nextV, g1, g2, hv]
      · have hv' : stVal (m, p, n) = false := by simpa using hv
        clear hv
        go_wp2_with fail
        refine (f20 (m, p, n) _).mono ?_
        rintro e w1 ⟨rfl, hb1⟩
        have hq := hq'.out.below hb1 (by omega)
        obtain ⟨z0, z1, z2, z3, z4, z5⟩ := hq.all3
        have hb2 := bthen hb hb1
        clear hb1 y0 y1 y2
        go_wp2_with fail
        refine bodyPost_ret (v := .tuple #[.agg #[.int .i64 0, .int .i64 0, .int .i64 0], .int .i64 60]) (by simp [results, Try.results16, go_sem, z0, z1, z2]) rfl ⟨?_, bset (bset (bset hb2 (by simp) _) (by simp) _) (by simp) _⟩
        obtain ⟨g1, g2⟩ := H.out
        simp [nextS, nextV, g1, hv']

end Go.Proofs.Ytenhghkiapkejaa
