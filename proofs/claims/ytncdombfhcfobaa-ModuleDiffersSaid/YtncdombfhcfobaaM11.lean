/- Contracts: sorted, made. -/
import Derived.Test.YtncdombfhcfobaaM10
namespace Go.Proofs.Ytncdombfhcfobaa
open Go.RowKit
theorem SortOf.uniq {l l' s s' : List It} (hn : (l.map (·.id)).Nodup) (hp : l.Perm l') (h : SortOf l s) (h' : SortOf l' s') : s = s' := by
  have h1 : s.Perm s' := h.1.trans (hp.trans h'.1.symm)
  have hn' : (s.map (·.id)).Nodup := (h.1.map _).nodup_iff.2 hn
  refine List.Perm.eq_of_pairwise (le := fun x y => ¬ y.id < x.id) (fun a b ha hb hab hba => ?_) h.2 h'.2 h1
  have e : a.id = b.id := by omega
  obtain ⟨i, hi, rfl⟩ := List.mem_iff_getElem.1 ha
  obtain ⟨j, hj, rfl⟩ := List.mem_iff_getElem.1 (h1.symm.subset hb)
  rcases Nat.lt_trichotomy i j with h3 | h3 | h3
  · have := (List.pairwise_iff_getElem.1 hn') i j (by simpa using hi) (by simpa using hj) h3
    exact absurd (by simpa using e) this
  · subst h3; rfl
  · have := (List.pairwise_iff_getElem.1 hn') j i (by simpa using hj) (by simpa using hi) h3
    exact absurd (by simpa using e.symm) this
/-- one round of sorted's loop -/
def SoInv (w : World) (r b : Nat) (ls : List It) (N : Nat) (v : Value) (wr : World) : Prop :=
  ∃ P F : List It, N = F.length ∧ IRg wr r b (ls.map kvI) (F.map kvI) ∧ ls.Perm (P ++ F) ∧ wr.ownsRow w.heap.size 36 6 v P.length (P.flatMap cI) ∧ Below w.heap.size w wr ∧ w.heap.size ≤ r
theorem own_ne {wr : World} {b n base : Nat} {ls F : List (Int × Value)} {r : Nat} {v : Value} {xs : List Value} (h : wr.ownsRow base 36 6 v n xs) (hr : IRg wr r b ls F) : v.ownBlock = none ∨ v.ownBlock ≠ some r := by
  rcases h.2 with ⟨rfl, _⟩ | ⟨g, cap, cur, rfl, _, hg, _⟩
  · exact .inl rfl
  · refine .inr fun e => ?_
    obtain ⟨es, clock, seen, c0, hr, _⟩ := hr
    simp only [Value.ownBlock, Option.some.injEq] at e
    subst e
    rw [hg] at hr
    cases hr
theorem own_apart {wr : World} {b n base : Nat} {ls F : List (Int × Value)} {r : Nat} {v : Value} {xs : List Value} {t : TypeId} {sz : Nat} (h : wr.ownsRow base t sz v n xs) (hr : IRg wr r b ls F) : ∀ k, v.ownBlock = some k → base ≤ k ∧ k ≠ r ∧ k ≠ b := by
  intro k hk
  rcases h.2 with ⟨rfl, _⟩ | ⟨g, cap, cur, rfl, hb, hg, _⟩
  · cases hk
  · simp only [Value.ownBlock, Option.some.injEq] at hk
    subst hk
    obtain ⟨es, clock, seen, c0, hr, _, hm, _⟩ := hr
    exact ⟨hb, (fun e => by subst e; rw [hg] at hr; cases hr), (fun e => by subst e; rw [hg] at hm; cases hm)⟩
theorem IRg.grown {w w' : World} {r b : Nat} {L F : List (Int × Value)} {row : Option Nat} (h : IRg w r b L F) (hg : w.grownBy w' row) (hr : ∀ k, row = some k → k ≠ r ∧ k ≠ b) : IRg w' r b L F :=
  h.same (hg.block r h.lt.1 (fun e => (hr r e.symm).1 rfl)) (hg.block b h.lt.2 (fun e => (hr b e.symm).2 rfl))
set_option maxRecDepth 100000 in
set_option maxHeartbeats 1000000 in
theorem c_sorted (b : Nat) (ls : List It) (w : World) (him : IM w b (ls.map kvI)) (hlen : ls.length ≤ 1000000) :
    Calls Try.prog 38 #[.map (some b)] w fun e w' => ∃ v s, e = .returned v ∧ SortOf ls s ∧ w'.ownsRow w.heap.size 36 6 v ls.length (s.flatMap cI) ∧ Below w.heap.size w w' := by
  obtain ⟨i0, hi, hz0, hz1, hz2⟩ := info_parts Try.infoItem
  have hbl := him.lt
  go_enter Try.func38, Try.ntmps38
  go_wp2_with (refine wpList_range_im rfl _ 82 rfl 3 36 Try.underlying82 rfl him ?_; intro w4 hrg hg4 hs4)
  go_frame
  go_loopg [3] ls.length (fun N v wr => SoInv w w.heap.size b ls N v wr)
  case atStart => exact ⟨[], ls, rfl, hrg, .refl _, World.ownsRow_nil _ _ _ _, bgrown (Below.refl _ _) hg4 (fun k e => by cases e), Nat.le_refl _⟩
  case round =>
    obtain ⟨P, F, rfl, hrg', hperm, hown, hb, hrl⟩ := hrel
    have HP := hide (And.intro hperm (And.intro hown (And.intro hb hrg')))
    have hpl := hperm.length_eq
    rw [List.length_append] at hpl
    have hP6 : P.length ≤ 1000000 := by omega
    clear hrg hg4 hs4 him hperm hb
    go_wp2_with (refine wpList_next_im rfl _ rfl rfl hrg' ?_ ?_)
    · intro hF
      have hF' : F = [] := by simpa using hF
      subst hF'
      obtain ⟨hperm, _, hb, _⟩ := HP.out
      rw [List.append_nil] at hperm
      have hpe := hperm.length_eq
      have HB := hide (And.intro hperm (And.intro hb hpe))
      clear hperm hb hpe hF hrg' hpl
      rcases Nat.eq_zero_or_pos P.length with h0 | h0
      · obtain ⟨A', cv, rfl, _, _, _⟩ := SlR.of_own hown
        rw [h0] at hown
        have HO := hide (And.intro hown h0)
        rw [h0]
        clear hown h0
        go_wp2_with fail
        refine (c_sortNone A' cv _ _).mono ?_
        rintro e w5 ⟨rfl, rfl⟩
        go_wp2
        go_ret
        obtain ⟨hperm, hb, hpe⟩ := HB.out
        obtain ⟨hown, h0⟩ := HO.out
        have hP : P = [] := List.eq_nil_of_length_eq_zero h0
        subst hP
        have hls : ls = [] := List.eq_nil_of_length_eq_zero (by simpa using hpe)
        subst hls
        exact ⟨_, [], rfl, ⟨.refl _, .nil⟩, hown, hb⟩
      · obtain ⟨g, cap, cur, rfl, _, _, _, _, _⟩ := own_blk' hown h0
        have HO := hide hown
        clear hown
        go_wp2_with fail
        refine (c_sortItem P w.heap.size g cap _ (by omega) HO.out).mono ?_
        rintro e w5 ⟨rfl, s, hs, hown2, hb2⟩
        have HS := hide (And.intro hs (And.intro hown2 hb2))
        clear hs hown2 hb2
        go_wp2
        go_ret
        obtain ⟨hs, hown2, hb2⟩ := HS.out
        obtain ⟨hperm, hb, hpe⟩ := HB.out
        rw [hpe]
        exact ⟨_, s, rfl, ⟨hs.1.trans hperm.symm, hs.2⟩, hown2, hb.trans hb2⟩
    · intro q v F' w5 y hym hye hperm' hrg5 hg5 hs5 hent
      obtain ⟨x, Fi, hx, rfl, hpf⟩ := perm_un hperm'
      simp only [kvI, Prod.mk.injEq] at hx
      obtain ⟨rfl, rfl⟩ := hx
      obtain ⟨hperm, _, hb, hrg1⟩ := HP.out
      have hown5 := hown.kept hg5 (own_ne hown hrg1)
      have hb5 := bgrown hb hg5 (fun k e => by cases e; exact Nat.le_refl _)
      have hgl5 := hb5.size
      have HQ := hide (And.intro hperm (And.intro hpf (And.intro hrg5 (And.intro hb5 hpl))))
      have gA := (Blk.new (w5.alloc (.cells #[.int .i64 x.id, .int .i64 x.kind, .int .i64 x.x, .int .i64 x.y, .string x.text, .int .i64 x.mod] 36)) 36 (cI x)).slr (k := 6) (n := 1) rfl
      rw [show (w5.alloc (.cells #[.int .i64 x.id, .int .i64 x.kind, .int .i64 x.x, .int .i64 x.y, .string x.text, .int .i64 x.mod] 36)).heap.size = w5.heap.size + 1 from by simp] at gA
      clear hperm hpf hrg5 hb5 hrg1 hb hg5 hown hym hye hperm' hrg' hs5
      go_wp2_with (at_builtin; refine wpList_append_sl (size := 6) rfl _ _ 24 rfl w.heap.size 36 i0 zV 56 Try.underlying24 hi hz0 hz1 hz2 rfl (by decide) _ P.length (P.flatMap cI) rfl ((hown5.alloc _).alloc _) 1 1 (cI x) rfl gA (Below.refl _ _) (fun u hu => oneI [x] u (by simpa using hu)) (by unfold maxLen; omega) (by omega) (by simp; omega) ?_; intro v6 w6 hown6 hgrow6 hor6)
      rw [← flatI_snoc] at hown6
      obtain ⟨hperm, hpf, hrg5, hb5, hpl⟩ := HQ.out
      go_roundg Fi.length
      case measure => have := hpf.length_eq; simp at this; omega
      case rel =>
        refine ⟨P ++ [x], Fi, rfl, ?_, ?_, by rw [List.length_append]; exact hown6, ?_, Nat.le_refl _⟩
        · exact ((hrg5.alloc _).alloc _).grown hgrow6 (fun k e => ((own_apart hown5 hrg5) k e).2)
        · rw [List.append_assoc]; exact hperm.trans (List.Perm.append_left P hpf)
        · exact bgrown (balloc (balloc hb5 _) _) hgrow6 (fun k e => ((own_apart hown5 hrg5) k e).1)
end Go.Proofs.Ytncdombfhcfobaa
