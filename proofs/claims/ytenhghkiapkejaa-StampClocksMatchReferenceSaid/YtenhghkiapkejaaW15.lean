/- Contracts of slices.AppendSeq and slices.Collect at stamps. -/
import Derived.Test.YtenhghkiapkejaaW14
namespace Go.Proofs.Ytenhghkiapkejaa
open Go.RowKit Go.Shelf
attribute [local go_sem] Oper.semAt_some
theorem Try.info24 : (Try.prog.info? 24).map (fun i => (i.zero, i.size, i.bytes)) = some (some (.agg #[.int .i64 0, .int .i64 0, .int .i64 0]), 3, 24) := by kernel_rfl
/-- what lies in memory between two rounds of AppendSeq -/
def InApp (w : World) (B0 : Nat) (pre : List I3) (W : World) : Prop :=
  B0 ≤ W.heap.size ∧ ∃ v, Boxed W w.heap.size 26 v ∧ W.ownsRow w.heap.size 24 3 v pre.length (pre.flatMap c3) ∧ Below w.heap.size w W
def AxApp (s0 g B0 : Nat) (x : I3) (a : Act) (W : World) : Prop :=
  ∃ Bx, B0 ≤ Bx ∧ Blk W Bx 24 [.int .i64 x.1, .int .i64 x.2.1, .int .i64 x.2.2] ∧ a =
    { tmps := #[.slice none 0 0, .func (.func 55) #[] #[.pointer (some ⟨g, 0, none⟩)], .pointer (some ⟨s0, 0, none⟩), undef, .slice none 0 0, .pointer (some ⟨Bx, 0, none⟩), .func (.func 55) #[] #[.pointer (some ⟨g, 0, none⟩)],
      .agg #[.int .i64 x.1, .int .i64 x.2.1, .int .i64 x.2.2], undef, undef, undef, undef, undef], defers := [] }
set_option maxRecDepth 100000 in
set_option maxHeartbeats 1000000 in
theorem f61 (A : Option Addr) (l : List I3) (c g : Nat) (w : World) (hn : l.length ≤ c) (hc : c ≤ 9223372036854775807) (hl : l.length ≤ 100) (hg : w.cell? ⟨g, 0, none⟩ = some (.slice A l.length c)) (hr : SlR w w.heap.size 3 A l.length (l.flatMap c3)) :
    Calls Try.prog 61 #[.slice none 0 0, .func (.func 55) #[] #[.pointer (some ⟨g, 0, none⟩)]] w fun e w' => ∃ v, e = .returned v ∧ w'.ownsRow w.heap.size 24 3 v l.length (l.flatMap c3) ∧ Below w.heap.size w w' := by
  obtain ⟨i0, hi, hz0, hz1, hz2⟩ := info_parts Try.info24
  have hgl := World.block_lt_of_cell? w _ hg
  simp only [] at hgl
  refine callsIn_wide.1 (callsIn_of_wp_marks (n := 7) Try.func61 rfl trivial ?_ rfl)
  simp only [Try.ntmps61, List.size_toArray, List.length_cons, List.length_nil, Nat.reduceAdd, Nat.reduceSub, Array.replicate_succ, Array.replicate_zero, List.push_toArray, List.append_toArray, List.nil_append, List.cons_append]
  refine wpIn_wide.2 ?_
  go_wp2_with fail
  have bO := Boxed.new w 26 (.slice none 0 0)
  have hb2 := balloc (Below.refl w.heap.size w) (.cells #[.slice none 0 0] 26)
  obtain ⟨W2, hW2⟩ : ∃ W2, w.alloc (.cells #[.slice none 0 0] 26) = W2 := ⟨_, rfl⟩
  have hsz2 : W2.heap.size = w.heap.size + 1 := by rw [← hW2]; simp
  rw [hW2] at bO hb2 ⊢
  clear hW2
  have hsl2 := hr.below hb2
  refine (wpIn_wide (n := 7)).1 (wpIn_rangeFunc_ownH (α := I3) rfl (by omega) (gf := 55) (lb := #[.pointer (some ⟨g, 0, none⟩)]) rfl trivial (enters_of Try.func55 (by kernel_rfl) rfl)
    (encs := encS) (Kp := Below w.heap.size) (S := fun ys => ys = l) (Sp := fun _ => True) (N := l.length) (w0 := W2) ?hseq
    (fun h k => h.trans k) (belowK_b (w := W2) hb2.size) (Below.refl _ _) (fun _ => rfl) (InApp w W2.heap.size) (fun c _ _ => False) ?hI ?hIx ?h0 (AxApp w.heap.size g W2.heap.size) ?hAx ?assign ?body ?done ?stop)
  case hseq =>
    intro lp J' Jx W' hW' hJ' _ hY h0'
    refine (f55 6 lp g w.heap.size (by omega) A l c hn hc J' Jx W' (fun pre X o h => hJ' pre X _ none h (World.grownBy_alloc X o none) (fun r e => by cases e)) (fun pre x X hj hl => hY pre x X hj hl)
      (Nat.le_trans hb2.size hW'.size) ((hW'.cell (p := ⟨g, 0, none⟩) (by simp; omega)).trans ((hb2.cell (p := ⟨g, 0, none⟩) hgl).trans hg)) (hsl2.below (hW'.mono hb2.size)) h0').mono ?_
    rintro e X ⟨hv, ⟨ys, h1, h2⟩ | ⟨pre, h⟩⟩
    · exact ⟨hv, .inl ⟨ys, h1, h2⟩⟩
    · exact ⟨hv, .inr ⟨pre, trivial, h⟩⟩
  case hI =>
    rintro pre X Y row ⟨hB0', v, hbx, hown, hb⟩ hg hrow
    refine ⟨Nat.le_trans hB0' hg.size, v, hbx.kept hg (fun e => by have := (hrow _ e.symm).1; omega), hown.kept hg ?_, bgrown hb hg (fun k e => by have := (hrow k e).1; omega)⟩
    rcases hown.2 with ⟨rfl, _⟩ | ⟨g', cap, cur, rfl, _, hgb, _⟩
    · exact .inl rfl
    · refine .inr fun e' => ?_
      obtain ⟨_, o, ho, hc⟩ := hrow g' (by simpa [Value.ownBlock] using e'.symm)
      rw [hgb] at ho; cases ho; cases hc
  case hIx =>
    rintro c' pre X Y row h hg hrow
    exact h
  case h0 => exact ⟨Nat.le_refl _, _, bO, World.ownsRow_nil _ _ _ _, hb2⟩
  case hAx =>
    rintro x a' _ X Y row ⟨Bx, hBx, hblk, he⟩ hg hrow
    refine ⟨Bx, hBx, hblk.grown hg (fun e => ?_), he⟩
    obtain ⟨_, o, ho, hcell⟩ := hrow Bx e
    unfold Blk at hblk
    rw [hblk] at ho
    injection ho with ho
    subst ho
    simp [Obj.isCells] at hcell
  case assign =>
    intro lp pre x X K' hIn hK'
    simp only [encS]
    gi_wp2
    refine hK' _ _ ((KeepsOthers.alloc X _).from _) ((Below.refl _ X).alloc hIn.2.choose_spec.2.2.size _) ?_ ⟨X.heap.size, hIn.1, Blk.new X 24 _, rfl⟩
    obtain ⟨hB0', v, hbx, hown, hb⟩ := hIn
    exact ⟨by simp; omega, v, hbx.alloc _, hown.alloc _, balloc hb _⟩
  case body =>
    rintro lp pre x a' X hlp ⟨rc, hrc⟩ ⟨hX0, v, hbx, hown, hb⟩ ⟨Bx, hBx, hblk, rfl⟩ hlt
    have hcb := hbx.cell
    obtain ⟨x0, x1, x2⟩ := hblk.all3
    have hbl := hblk.lt
    have hboxl := hbx.lt
    obtain ⟨m0, m1, m2⟩ := x
    simp only [] at x0 x1 x2 ⊢
    gi_wp2_with (gi_at_builtin; refine wpListIn_append_own _ rfl _ _ 26 rfl w.heap.size 24 i0 (.agg #[.int .i64 0, .int .i64 0, .int .i64 0]) 3 24 Try.underlying26 hi hz0 hz1 hz2 rfl (by decide) _ _ _ rfl (hown.alloc _) ⟨X.heap.size, 0, none⟩ 1 1 [.int .i64 m0, .int .i64 m1, .int .i64 m2] rfl rfl (news3 (by go_simp) (by go_simp) (by go_simp)) (by simp [Value.oneCell']) (by unfold maxLen; omega) (by omega) (by have := hb.size; simp; omega) ?_; intro v' w1 hown' hgrow _; obtain ⟨g', cap', rfl⟩ := ownsRow_succ hown'; obtain ⟨hv1, hv2, hr2, hk2, hb2'⟩ := hbx.appended (by decide) hown hb.size (Nat.le_refl _) hown' hgrow; have hc1 := hv1.cell; have hf1 := hv1.frozen; have hsw := hgrow.size; have hbw : w.heap.size < w1.heap.size := hv1.lt)
    refine ⟨hk2.from _, hb2', ?_, _, hv2, ?_, hb.trans hb2'⟩
    · simp at hsw ⊢; omega
    · rw [List.length_append, List.flatMap_append]
      simpa [c3] using hr2
  case done =>
    rintro D ys W hD rfl ⟨hB0', v, hbx, hown, hb⟩ hK
    have hcb := hbx.cell
    have hboxl := hbx.lt
    go_wp2
    refine ⟨by simp, .inl ⟨_, _, rfl, run_takeDeferred hK, ?_⟩⟩
    exact ⟨_, results_tmp rfl _ _ _, v, rfl, ownsRow_putObj hown _ hK rfl, hb.trans (belowK_b (w := w) (Nat.le_refl _) W D _ _ (by omega) hK rfl rfl)⟩
  case stop =>
    rintro D c pre W _ _ h _
    exact h.elim
theorem f53 (A : Option Addr) (l : List I3) (c g : Nat) (w : World) (hn : l.length ≤ c) (hc : c ≤ 9223372036854775807) (hl : l.length ≤ 100) (hg : w.cell? ⟨g, 0, none⟩ = some (.slice A l.length c)) (hr : SlR w w.heap.size 3 A l.length (l.flatMap c3)) :
    Calls Try.prog 53 #[.func (.func 55) #[] #[.pointer (some ⟨g, 0, none⟩)]] w fun e w' => ∃ v, e = .returned v ∧ w'.ownsRow w.heap.size 24 3 v l.length (l.flatMap c3) ∧ Below w.heap.size w w' := by
  go_enter Try.func53, Try.ntmps53
  go_wp2_with fail
  refine (f61 A l c g _ hn hc hl hg hr).mono ?_
  rintro e w1 ⟨v, rfl, hown, hb⟩
  go_wp2
  go_ret
  exact ⟨_, rfl, hown, hb⟩
end Go.Proofs.Ytenhghkiapkejaa
