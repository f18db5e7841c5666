/- ModuleMatchesReference, in pieces: the fifth loop. -/
import Derived.Test.YtncdombfhcfobaaGreatG19
namespace Go.Proofs.YtncdombfhcfobaaGreat
open Go.RowKit Go.Shelf
/-- a module of its own in memory, of any length -/
def MoL (W : World) (r : MR) (m : Mo) : Prop := (r.id = m.id ∧ r.n ≤ 9223372036854775807) ∧ SlR W W.heap.size 6 r.a r.n (m.items.flatMap cI)
theorem MoL.to {W W' : World} {r : MR} {m : Mo} (h : MoL W r m) (hb : Below W.heap.size W W') : MoL W' r m := ⟨h.1, h.2.to' hb⟩
theorem MoOk.low {W : World} {r : MR} {m : Mo} (h : MoOk W r m) : MoL W r m := ⟨⟨h.1.1, Nat.le_trans h.1.2.1 h.1.2.2.1⟩, h.2⟩
/-- a row of long groups does not lie in a short block -/
theorem SlR.blk {w : World} {b i B k n : Nat} {t : TypeId} {A : Option Addr} {cs xs : List Value} (h : SlR w B k A n xs) (hb : Blk w b t cs) (hk : cs.length < k) (v : Value) : SlR (w.setCell ⟨b, i, none⟩ v) B k A n xs := by
  refine ⟨h.1, fun hn => ?_⟩
  obtain ⟨g, off, e, hg, hc⟩ := h.2 hn
  refine ⟨g, off, e, hg, fun j u hu => ?_⟩
  have hne : b ≠ g := fun e => by
    subst e
    have hl : cs.length < xs.length := by
      rw [h.1]
      exact Nat.lt_of_lt_of_le hk (Nat.le_mul_of_pos_left k hn)
    have h1 := hc cs.length _ (List.getElem?_eq_getElem hl)
    rw [hb.cell, List.getElem?_eq_none (by omega)] at h1
    cases h1
  have hne' : (⟨b, i, none⟩ : Addr) ≠ ⟨g, off + j, none⟩ := fun e => hne (by injection e)
  first | exact (World.cell?_setCell_other w v hne').trans (hc j u hu) | exact (World.cell?_setCell_other _ hne').trans (hc j u hu) | exact (World.cell?_setCell_other _ _ _ _ hne').trans (hc j u hu) | exact (World.cell?_setCell_other _ _ _ hne').trans (hc j u hu)
theorem SlR.sz {w : World} {b i B k n : Nat} {A : Option Addr} {xs : List Value} {v : Value} (h : SlR (w.setCell ⟨b, i, none⟩ v) B k A n xs) (hB : B = w.heap.size) : SlR (w.setCell ⟨b, i, none⟩ v) (w.setCell ⟨b, i, none⟩ v).heap.size k A n xs := by
  rw [show (w.setCell ⟨b, i, none⟩ v).heap.size = B by rw [hB]; simp [World.setCell]]
  exact h
/-- what a merge leaves, boxed -/
def MgQ (w0 : World) (m : Mo) (l : List Int) (er : Int) (v u x : Value) (wx : World) : Prop :=
  ∃ (g : Nat) (q : MR) (A : Option Addr) (n c : Nat), v = .pointer (some ⟨g, 0, none⟩) ∧ u = .slice A n c ∧ x = .int .i64 er ∧ (q.id = m.id ∧ q.n ≤ 9223372036854775807 ∧ n ≤ 9223372036854775807) ∧ Blk wx g 37 (cM q) ∧ SlR wx wx.heap.size 6 q.a q.n (m.items.flatMap cI) ∧ SlR wx wx.heap.size 1 A n (l.flatMap cN) ∧ Below w0.heap.size w0 wx
theorem own_slr {w : World} {base n c k : Nat} {e : TypeId} {A : Option Addr} {xs : List Value} (h : w.ownsRow base e k (.slice A n c) n xs) : SlR w w.heap.size k A n xs := (own_row h).2.2

set_option linter.unusedSimpArgs false in
set_option linter.unusedVariables false in
set_option maxRecDepth 100000 in
set_option maxHeartbeats 16000000 in
theorem b9 (bL oL N C i : Nat) (r0 r52 rn : MR) (m0 m52 mn : Mo) (b52 gT k : Nat) (a : Act) (w : World) (Q : Exit → Act → World → Prop) (hz : a.tmps.size = 416) (hd : a.defers = []) (h28 : sl a 28 = .slice (some ⟨bL, oL, none⟩) N C) (h51 : sl a 51 = .int .i64 i) (h52 : sl a 52 = .pointer (some ⟨b52, 0, none⟩)) (h336 : sl a 336 = .slice (some ⟨gT, 0, none⟩) 2 2) (h338 : sl a 338 = .int .i64 k) (hN : N ≤ 100) (hi : i < N) (x0 : w.cell? ⟨bL, oL + i * 2, none⟩ = some (.int .i64 r0.id)) (x1 : w.cell? ⟨bL, oL + i * 2 + 1, none⟩ = some (.slice r0.a r0.n r0.c)) (k0 : MoL w r0 m0) (g52 : Blk w b52 37 (cM r52)) (k52 : MoL w r52 m52) (hk : k < 2) (z0 : w.cell? ⟨gT, k * 2, none⟩ = some (.int .i64 rn.id)) (z1 : w.cell? ⟨gT, k * 2 + 1, none⟩ = some (.slice rn.a rn.n rn.c)) (kn : MoL w rn mn)
    (hQ : ∀ (a' : Act) (W : World), Kp [19, 1, 2, 16, 23, 25, 26, 28, 136, 137, 138, 51, 52, 336, 337, 338] a a' → Below w.heap.size w W → Q .normal a' W) : (blk 9).wp Tryz.prog Q a w := by
  conv => arg 2; whnf
  obtain ⟨u, rfl⟩ : ∃ u, a = frm u := ⟨sl a, act_frm hz hd⟩
  clear hz hd
  rw [sl_frm u 28 (by decide)] at h28
  rw [sl_frm u 51 (by decide)] at h51
  rw [sl_frm u 52 (by decide)] at h52
  rw [sl_frm u 336 (by decide)] at h336
  rw [sl_frm u 338 (by decide)] at h338
  have H28 := hide h28
  have H51 := hide h51
  have H52 := hide h52
  have H336 := hide h336
  have H338 := hide h338
  have HQ := hide hQ
  unfold frm
  rw [h28, h51, h52, h336, h338]
  clear h28 h51 h52 h336 h338 hQ
  have hk' : (k : Int) < 2 := by omega
  have hi' : (i : Int) < (N : Int) := by omega
  have lz := World.block_lt_of_cell? w _ z0
  have lx := World.block_lt_of_cell? w _ x0
  have ly := World.block_lt_of_cell? w _ x1
  have gN : Blk (w.alloc (.cells #[.int .i64 rn.id, .slice rn.a rn.n rn.c] 37)) w.heap.size 37 (cM rn) := Blk.new w 37 (cM rn)
  have hbN := balloc (Below.refl w.heap.size w) (.cells #[.int .i64 rn.id, .slice rn.a rn.n rn.c] 37)
  have HI := hide (And.intro k0.1 (And.intro k52.1 kn.1))
  have HB : Hid (∀ W : World, Below (w.alloc (.cells #[.int .i64 rn.id, .slice rn.a rn.n rn.c] 37)).heap.size (w.alloc (.cells #[.int .i64 rn.id, .slice rn.a rn.n rn.c] 37)) W → ((W.cell? ⟨bL, oL + i * 2, none⟩ = some (.int .i64 r0.id) ∧ W.cell? ⟨bL, oL + i * 2 + 1, none⟩ = some (.slice r0.a r0.n r0.c)) ∧ MoL W r0 m0) ∧ (Blk W b52 37 (cM r52) ∧ MoL W r52 m52) ∧ (Blk W w.heap.size 37 (cM rn) ∧ MoL W rn mn) ∧ Below w.heap.size w W) := hide fun W hW => by
    have hb := bthen hbN hW
    exact ⟨⟨⟨(hb.cell (p := ⟨bL, _, none⟩) lx).trans x0, (hb.cell (p := ⟨bL, _, none⟩) ly).trans x1⟩, k0.to hb⟩, ⟨g52.below hb g52.lt, k52.to hb⟩, ⟨gN.below hW gN.lt, kn.to hb⟩, hb⟩
  clear gN hbN k0 k52 kn g52 x0 x1 lx ly
  go_upto_region 52 with (fail)
  clear z0 z1 lz
  generalize (w.alloc (.cells #[.int .i64 rn.id, .slice rn.a rn.n rn.c] 37)) = w1 at *
  generalize w.heap.size = b55 at *
  have HS := hide (fun (W : World) (h : Below w1.heap.size w1 W) => (show ((W.cell? ⟨bL, oL + i * 2, none⟩ = some (.int .i64 r0.id) ∧ W.cell? ⟨bL, oL + i * 2 + 1, none⟩ = some (.slice r0.a r0.n r0.c)) ∧ (W.cell? ⟨b52, 0, none⟩ = some (.int .i64 r52.id) ∧ W.cell? ⟨b52, 1, none⟩ = some (.slice r52.a r52.n r52.c)) ∧ (W.cell? ⟨b55, 0, none⟩ = some (.int .i64 rn.id) ∧ W.cell? ⟨b55, 1, none⟩ = some (.slice rn.a rn.n rn.c))) ∧ Below w1.heap.size w1 W from ⟨⟨(HB.out W h).1.1, (HB.out W h).2.1.1.two, (HB.out W h).2.2.1.1.two⟩, h⟩))
  have HGv := hide (fun (W : World) (h : Below w1.heap.size w1 W) => u_Merge r0 r52 rn m0 m52 mn W HI.out.1.1 HI.out.2.1.1 HI.out.2.2.1 HI.out.1.2 HI.out.2.1.2 HI.out.2.2.2 (HB.out W h).1.2.2 (HB.out W h).2.1.2.2 (HB.out W h).2.2.1.2.2)
  go_cut [56, 57, 58] from 342 to 352 (fun v u x wx => MgQ w1 (mgU m0 m52 mn) (mgN m0 m52 mn) (erU (mgB m0 m52 mn)) v u x wx)
  case first =>
    clear HQ
    go_region_held3 (fun W => ((W.cell? ⟨bL, oL + i * 2, none⟩ = some (.int .i64 r0.id) ∧ W.cell? ⟨bL, oL + i * 2 + 1, none⟩ = some (.slice r0.a r0.n r0.c)) ∧ (W.cell? ⟨b52, 0, none⟩ = some (.int .i64 r52.id) ∧ W.cell? ⟨b52, 1, none⟩ = some (.slice r52.a r52.n r52.c)) ∧ (W.cell? ⟨b55, 0, none⟩ = some (.int .i64 rn.id) ∧ W.cell? ⟨b55, 1, none⟩ = some (.slice rn.a rn.n rn.c))) ∧ Below w1.heap.size w1 W)
      (first | exact HS.out _ (by assumption) | exact HS.out _ (bdrew (Below.refl _ _)) | exact HS.out _ h8 | exact HS.out _ (balloc h8 _) | exact HS.out _ (bset (bset h8 (Nat.le_refl _) _) (Nat.le_refl _) _) | (go_split_ands; first | exact HS.out _ (by assumption) | exact HS.out _ (bthen (by assumption) (by assumption)) | exact HS.out _ (balloc (by assumption) _) | exact HS.out _ (bdrew (balloc (Below.refl _ _) _)) | exact HS.out _ (balloc (bthen (by assumption) (by assumption)) _)))
      ((go_split_ands; go_at_call 35; refine (HGv.out _ (by assumption)).mono ?_; rintro e w8 ⟨q, A', n', c', rfl, hid, hqn, hs6, hn, hs1, hown, hb8⟩; have h8 : Below w1.heap.size w1 w8 := bthen (by assumption) hb8; have HID := hide (And.intro hid (And.intro hqn hn)); have HSL := hide (And.intro hs6 (And.intro hs1 hown)); clear hid hqn hn hs6 hs1 hown; (try (obtain ⟨q0, q1, q2, q3⟩ := (((Blk.new w1 37 [.int .i64 0, .slice none 0 0]).drew).below hb8 (by simp)).all2; have q4 : w1.heap.size < w8.heap.size := (((Blk.new w1 37 [.int .i64 0, .slice none 0 0]).drew).below hb8 (by simp)).lt))))
    · go_wp2_with fail
      go_meet
      exact ⟨w8.heap.size, q, A', n', c', rfl, rfl, rfl, HID.out, Blk.new w8 37 (cM q), HSL.out.1.to' (balloc (Below.refl _ _) _), HSL.out.2.1.to' (balloc (Below.refl _ _) _), balloc h8 _⟩
    · go_wp2_with fail
      go_meet
      have gN := ((Blk.new w1 37 [.int .i64 0, .slice none 0 0]).drew).below hb8 (by simp)
      exact ⟨w1.heap.size, q, A', n', c', rfl, rfl, rfl, HID.out, (gN.set 0 (.int .i64 q.id)).set 1 (.slice q.a q.n q.c), SlR.sz ((HSL.out.1.blk gN (by decide) (.int .i64 q.id)).blk (gN.set 0 (.int .i64 q.id)) (by simp) (.slice q.a q.n q.c)) (by simp [World.setCell]),
        own_slr (own_set (own_set HSL.out.2.2 ⟨w1.heap.size, 0, none⟩ (by simp) (.int .i64 q.id)) ⟨w1.heap.size, 1, none⟩ (by simp) (.slice q.a q.n q.c)), bset (bset h8 (Nat.le_refl _) _) (Nat.le_refl _) _⟩
  case rest =>
    obtain ⟨w2, rfl⟩ : ∃ w2 : World, w2 = wc := ⟨_, rfl⟩
    obtain ⟨g56, q56, A56, n56, c56, rfl, rfl, rfl, hi56, gQ, s6, s1, hbq⟩ := hcut
    clear HS HGv
    have HN56 := hide hi56
    have H56 : Hid (∀ W : World, Below w2.heap.size w2 W → (Blk W g56 37 (cM q56) ∧ SlR W W.heap.size 6 q56.a q56.n ((mgU m0 m52 mn).items.flatMap cI) ∧ SlR W W.heap.size 1 A56 n56 ((mgN m0 m52 mn).flatMap cN)) ∧ Below w1.heap.size w1 W) := hide fun W hW => ⟨⟨gQ.below hW gQ.lt, s6.to' hW, s1.to' hW⟩, bthen hbq hW⟩
    clear hi56 gQ s6 s1 hbq
    go_upto_region 53 with (fail)
    have HS := hide (fun (W : World) (h : Below w2.heap.size w2 W) => (show ((W.cell? ⟨bL, oL + i * 2, none⟩ = some (.int .i64 r0.id) ∧ W.cell? ⟨bL, oL + i * 2 + 1, none⟩ = some (.slice r0.a r0.n r0.c)) ∧ (W.cell? ⟨b52, 0, none⟩ = some (.int .i64 r52.id) ∧ W.cell? ⟨b52, 1, none⟩ = some (.slice r52.a r52.n r52.c)) ∧ (W.cell? ⟨b55, 0, none⟩ = some (.int .i64 rn.id) ∧ W.cell? ⟨b55, 1, none⟩ = some (.slice rn.a rn.n rn.c))) ∧ Below w2.heap.size w2 W from ⟨⟨(HB.out W (H56.out W h).2).1.1, (HB.out W (H56.out W h).2).2.1.1.two, (HB.out W (H56.out W h).2).2.2.1.1.two⟩, h⟩))
    have HGv := hide (fun (W : World) (h : Below w2.heap.size w2 W) => u_rMerge r0 r52 rn m0 m52 mn W HI.out.1.1 HI.out.2.1.1 HI.out.2.2.1 HI.out.1.2 HI.out.2.1.2 HI.out.2.2.2 (HB.out W (H56.out W h).2).1.2.2 (HB.out W (H56.out W h).2).2.1.2.2 (HB.out W (H56.out W h).2).2.2.1.2.2)
    go_cut [59, 60, 61] from 353 to 363 (fun v u x wx => MgQ w2 (mgU m0 m52 mn) (mgN m0 m52 mn) (erU (mgB m0 m52 mn)) v u x wx)
    case first =>
      clear HQ
      go_region_held3 (fun W => ((W.cell? ⟨bL, oL + i * 2, none⟩ = some (.int .i64 r0.id) ∧ W.cell? ⟨bL, oL + i * 2 + 1, none⟩ = some (.slice r0.a r0.n r0.c)) ∧ (W.cell? ⟨b52, 0, none⟩ = some (.int .i64 r52.id) ∧ W.cell? ⟨b52, 1, none⟩ = some (.slice r52.a r52.n r52.c)) ∧ (W.cell? ⟨b55, 0, none⟩ = some (.int .i64 rn.id) ∧ W.cell? ⟨b55, 1, none⟩ = some (.slice rn.a rn.n rn.c))) ∧ Below w2.heap.size w2 W)
        (first | exact HS.out _ (by assumption) | exact HS.out _ (bdrew (Below.refl _ _)) | exact HS.out _ h8 | exact HS.out _ (balloc h8 _) | exact HS.out _ (bset (bset h8 (Nat.le_refl _) _) (Nat.le_refl _) _) | (go_split_ands; first | exact HS.out _ (by assumption) | exact HS.out _ (bthen (by assumption) (by assumption)) | exact HS.out _ (balloc (by assumption) _) | exact HS.out _ (bdrew (balloc (Below.refl _ _) _)) | exact HS.out _ (balloc (bthen (by assumption) (by assumption)) _)))
        ((go_split_ands; go_at_call 36; refine (HGv.out _ (by assumption)).mono ?_; rintro e w8 ⟨q, A', n', c', rfl, hid, hqn, hs6, hn, hs1, hown, hb8⟩; have h8 : Below w2.heap.size w2 w8 := bthen (by assumption) hb8; have HID := hide (And.intro hid (And.intro hqn hn)); have HSL := hide (And.intro hs6 (And.intro hs1 hown)); clear hid hqn hn hs6 hs1 hown; (try (obtain ⟨q0, q1, q2, q3⟩ := (((Blk.new w2 37 [.int .i64 0, .slice none 0 0]).drew).below hb8 (by simp)).all2; have q4 : w2.heap.size < w8.heap.size := (((Blk.new w2 37 [.int .i64 0, .slice none 0 0]).drew).below hb8 (by simp)).lt))))
      · go_wp2_with fail
        go_meet
        exact ⟨w8.heap.size, q, A', n', c', rfl, rfl, rfl, HID.out, Blk.new w8 37 (cM q), HSL.out.1.to' (balloc (Below.refl _ _) _), HSL.out.2.1.to' (balloc (Below.refl _ _) _), balloc h8 _⟩
      · go_wp2_with fail
        go_meet
        have gN := ((Blk.new w2 37 [.int .i64 0, .slice none 0 0]).drew).below hb8 (by simp)
        exact ⟨w2.heap.size, q, A', n', c', rfl, rfl, rfl, HID.out, (gN.set 0 (.int .i64 q.id)).set 1 (.slice q.a q.n q.c), SlR.sz ((HSL.out.1.blk gN (by decide) (.int .i64 q.id)).blk (gN.set 0 (.int .i64 q.id)) (by simp) (.slice q.a q.n q.c)) (by simp [World.setCell]),
          own_slr (own_set (own_set HSL.out.2.2 ⟨w2.heap.size, 0, none⟩ (by simp) (.int .i64 q.id)) ⟨w2.heap.size, 1, none⟩ (by simp) (.slice q.a q.n q.c)), bset (bset h8 (Nat.le_refl _) _) (Nat.le_refl _) _⟩
    case rest =>
      obtain ⟨w3, rfl⟩ : ∃ w3 : World, w3 = wc := ⟨_, rfl⟩
      obtain ⟨g59, q59, A59, n59, c59, rfl, rfl, rfl, hi59, gQ, s6, s1, hbq⟩ := hcut
      clear HS HGv
      have HN59 := hide hi59
      have H59 : Hid (∀ W : World, Below w3.heap.size w3 W → (Blk W g59 37 (cM q59) ∧ SlR W W.heap.size 6 q59.a q59.n ((mgU m0 m52 mn).items.flatMap cI) ∧ SlR W W.heap.size 1 A59 n59 ((mgN m0 m52 mn).flatMap cN)) ∧ Below w2.heap.size w2 W) := hide fun W hW => ⟨⟨gQ.below hW gQ.lt, s6.to' hW, s1.to' hW⟩, bthen hbq hW⟩
      clear hi59 gQ s6 s1 hbq
      go_upto_region 54 with (fail)
      have HS := hide (fun (W : World) (h : Below w3.heap.size w3 W) => (show (W.cell? ⟨bL, oL + i * 2 + 1, none⟩ = some (.slice r0.a r0.n r0.c) ∧ W.cell? ⟨b55, 1, none⟩ = some (.slice rn.a rn.n rn.c)) from ⟨(HB.out W (H56.out W (H59.out W h).2).2).1.1.2, (HB.out W (H56.out W (H59.out W h).2).2).2.2.1.1.two.2⟩))
      have HGv := hide (fun (W : World) (h : Below w3.heap.size w3 W) => u_Differ r0.a r0.n r0.c m0.items rn.a rn.n rn.c mn.items W HI.out.1.2 HI.out.2.2.2 (HB.out W (H56.out W (H59.out W h).2).2).1.2.2 (HB.out W (H56.out W (H59.out W h).2).2).2.2.1.2.2)
      refine wp_noexit ?_
      refine wp_region_held_drew (S := fun U => (U.cell? ⟨bL, oL + i * 2 + 1, none⟩ = some (.slice r0.a r0.n r0.c) ∧ U.cell? ⟨b55, 1, none⟩ = some (.slice rn.a rn.n rn.c))) (by kernel_rfl) (HS.out _ (bdrew (Below.refl _ _))) (fun hHeld => ?_)
      refine wpAnyH_take (i := 0) (v := ?_) rfl (by kernel_rfl) (by kernel_rfl) (by kernel_rfl) (fun _ _ _ h => h) (Or.inl ⟨by rfl, ?hy1⟩) (by assumption) ?rs1
      case hy1 => (intro w hSw; (try dsimp only at hSw); go_simp; try (with_reducible rfl))
      (try simp only [Act.put, List.setIfInBounds_toArray, List.set_cons_zero, List.set_cons_succ, List.getElem_toArray, List.getElem_cons_zero, List.getElem_cons_succ])
      refine wpAnyH_take (i := 1) (v := ?_) rfl (by kernel_rfl) (by kernel_rfl) (by kernel_rfl) (fun _ _ _ h => h) (Or.inl ⟨by rfl, ?hy2⟩) (by assumption) ?rs2
      case hy2 => (intro w hSw; (try dsimp only at hSw); go_simp; try (with_reducible rfl))
      (try simp only [Act.put, List.setIfInBounds_toArray, List.set_cons_zero, List.set_cons_succ, List.getElem_toArray, List.getElem_cons_zero, List.getElem_cons_succ])
      refine wpAnyH_take (i := 2) (v := ?_) rfl (by kernel_rfl) (by kernel_rfl) (by kernel_rfl) (fun _ _ _ h => h) (Or.inl ⟨by rfl, ?hy3⟩) (by assumption) ?rs3
      case hy3 => (intro w hSw; (try dsimp only at hSw); go_simp; try (with_reducible rfl))
      (try simp only [Act.put, List.setIfInBounds_toArray, List.set_cons_zero, List.set_cons_succ, List.getElem_toArray, List.getElem_cons_zero, List.getElem_cons_succ])
      refine wpAnyH_take (i := 3) (v := ?_) rfl (by kernel_rfl) (by kernel_rfl) (by kernel_rfl) (fun _ _ _ h => h) (Or.inl ⟨by rfl, ?hy4⟩) (by assumption) ?rs4
      case hy4 => (intro w hSw; (try dsimp only at hSw); go_simp; try (with_reducible rfl))
      (try simp only [Act.put, List.setIfInBounds_toArray, List.set_cons_zero, List.set_cons_succ, List.getElem_toArray, List.getElem_cons_zero, List.getElem_cons_succ])
      refine wpAnyH_take (i := 4) (v := ?_) rfl (by kernel_rfl) (by kernel_rfl) (by kernel_rfl) (fun _ _ _ h => h) (Or.inl ⟨by rfl, ?hy5⟩) (by assumption) ?rs5
      case hy5 => (intro w hSw; (try dsimp only at hSw); go_simp; try (with_reducible rfl))
      (try simp only [Act.put, List.setIfInBounds_toArray, List.set_cons_zero, List.set_cons_succ, List.getElem_toArray, List.getElem_cons_zero, List.getElem_cons_succ])
      refine wpAnyH_take (i := 5) (v := ?_) rfl (by kernel_rfl) (by kernel_rfl) (by kernel_rfl) (fun _ _ _ h => h) (Or.inl ⟨by rfl, ?hy6⟩) (by assumption) ?rs6
      case hy6 => (intro w hSw; (try dsimp only at hSw); go_simp; try (with_reducible rfl))
      (try simp only [Act.put, List.setIfInBounds_toArray, List.set_cons_zero, List.set_cons_succ, List.getElem_toArray, List.getElem_cons_zero, List.getElem_cons_succ])
      refine wpAnyH_take (i := 6) (v := ?_) rfl (by kernel_rfl) (by kernel_rfl) (by kernel_rfl) (fun _ _ _ h => h) (Or.inl ⟨by rfl, ?hy7⟩) (by assumption) ?rs7
      case hy7 => (intro w hSw; (try dsimp only at hSw); go_simp; try (with_reducible rfl))
      (try simp only [Act.put, List.setIfInBounds_toArray, List.set_cons_zero, List.set_cons_succ, List.getElem_toArray, List.getElem_cons_zero, List.getElem_cons_succ])
      refine wpAnyH_ready (rs := [7]) (by kernel_rfl) (by simp) ?_
      refine AllReadyH.cons rfl (fun K hK => ?_) ?_
      · go_simp
        refine (HGv.out _ (bdrew (Below.refl _ _))).mono ?_
        rintro e w4 ⟨Adw4, ndw4, cdw4, Bew4, mew4, dew4, rfl, hn1, hn2, hbn⟩
        have h8 : Below w3.heap.size w3 w4 := bthen (bdrew (Below.refl _ _)) hbn
        have HDw4 := hide (And.intro hn1 (And.intro hn2 h8))
        clear hn1 hn2 hbn h8
        refine hK.out _ _ (by exact (HS.out _ HDw4.out.2.2)) (fun hHeld => ?_)
        clear hK K
        (try simp only [Act.put, List.setIfInBounds_toArray, List.set_cons_zero, List.set_cons_succ, List.getElem_toArray, List.getElem_cons_zero, List.getElem_cons_succ])
        refine wpAnyH_take (i := 8) (v := ?_) rfl (by kernel_rfl) (by kernel_rfl) (by kernel_rfl) (fun _ _ _ h => h) (Or.inl ⟨by rfl, ?hy8⟩) (by assumption) ?rs8
        case hy8 => (intro w hSw; (try dsimp only at hSw); go_simp; try (with_reducible rfl))
        (try simp only [Act.put, List.setIfInBounds_toArray, List.set_cons_zero, List.set_cons_succ, List.getElem_toArray, List.getElem_cons_zero, List.getElem_cons_succ])
        refine wpAnyH_take (i := 9) (v := ?_) rfl (by kernel_rfl) (by kernel_rfl) (by kernel_rfl) (fun _ _ _ h => h) (Or.inl ⟨by rfl, ?hy9⟩) (by assumption) ?rs9
        case hy9 => (intro w hSw; (try dsimp only at hSw); go_simp; try (with_reducible rfl))
        (try simp only [Act.put, List.setIfInBounds_toArray, List.set_cons_zero, List.set_cons_succ, List.getElem_toArray, List.getElem_cons_zero, List.getElem_cons_succ])
        refine wpAnyH_take (i := 10) (v := ?_) rfl (by kernel_rfl) (by kernel_rfl) (by kernel_rfl) (fun _ _ _ h => h) (Or.inl ⟨by rfl, ?hy10⟩) (by assumption) ?rs10
        case hy10 => (intro w hSw; (try dsimp only at hSw); go_simp; try (with_reducible rfl))
        (try simp only [Act.put, List.setIfInBounds_toArray, List.set_cons_zero, List.set_cons_succ, List.getElem_toArray, List.getElem_cons_zero, List.getElem_cons_succ])
        refine wpAnyH_take (i := 11) (v := ?_) rfl (by kernel_rfl) (by kernel_rfl) (by kernel_rfl) (fun _ _ _ h => h) (Or.inl ⟨by rfl, ?hy11⟩) (by assumption) ?rs11
        case hy11 => (intro w hSw; (try dsimp only at hSw); go_simp; try (with_reducible rfl))
        (try simp only [Act.put, List.setIfInBounds_toArray, List.set_cons_zero, List.set_cons_succ, List.getElem_toArray, List.getElem_cons_zero, List.getElem_cons_succ])
        refine wpAnyH_take (i := 12) (v := ?_) rfl (by kernel_rfl) (by kernel_rfl) (by kernel_rfl) (fun _ _ _ h => h) (Or.inl ⟨by rfl, ?hy12⟩) (by assumption) ?rs12
        case hy12 => (intro w hSw; (try dsimp only at hSw); go_simp; try (with_reducible rfl))
        (try simp only [Act.put, List.setIfInBounds_toArray, List.set_cons_zero, List.set_cons_succ, List.getElem_toArray, List.getElem_cons_zero, List.getElem_cons_succ])
        refine wpAnyH_done (by kernel_rfl) ?_ _
        clear HS HGv
        go_upto_region 55 with (fail)
        have HS := hide (fun (W : World) (h : Below w4.heap.size w4 W) => (show (W.cell? ⟨bL, oL + i * 2 + 1, none⟩ = some (.slice r0.a r0.n r0.c) ∧ W.cell? ⟨b55, 1, none⟩ = some (.slice rn.a rn.n rn.c)) from ⟨(HB.out W (H56.out W (H59.out W (bthen HDw4.out.2.2 h)).2).2).1.1.2, (HB.out W (H56.out W (H59.out W (bthen HDw4.out.2.2 h)).2).2).2.2.1.1.two.2⟩))
        have HGv := hide (fun (W : World) (h : Below w4.heap.size w4 W) => u_rDiffer r0.a r0.n r0.c m0.items rn.a rn.n rn.c mn.items W HI.out.1.2 HI.out.2.2.2 (HB.out W (H56.out W (H59.out W (bthen HDw4.out.2.2 h)).2).2).1.2.2 (HB.out W (H56.out W (H59.out W (bthen HDw4.out.2.2 h)).2).2).2.2.1.2.2)
        refine wp_noexit ?_
        refine wp_region_held_drew (S := fun U => (U.cell? ⟨bL, oL + i * 2 + 1, none⟩ = some (.slice r0.a r0.n r0.c) ∧ U.cell? ⟨b55, 1, none⟩ = some (.slice rn.a rn.n rn.c))) (by kernel_rfl) (HS.out _ (bdrew (Below.refl _ _))) (fun hHeld => ?_)
        refine wpAnyH_take (i := 0) (v := ?_) rfl (by kernel_rfl) (by kernel_rfl) (by kernel_rfl) (fun _ _ _ h => h) (Or.inl ⟨by rfl, ?hy13⟩) (by assumption) ?rs13
        case hy13 => (intro w hSw; (try dsimp only at hSw); go_simp; try (with_reducible rfl))
        (try simp only [Act.put, List.setIfInBounds_toArray, List.set_cons_zero, List.set_cons_succ, List.getElem_toArray, List.getElem_cons_zero, List.getElem_cons_succ])
        refine wpAnyH_take (i := 1) (v := ?_) rfl (by kernel_rfl) (by kernel_rfl) (by kernel_rfl) (fun _ _ _ h => h) (Or.inl ⟨by rfl, ?hy14⟩) (by assumption) ?rs14
        case hy14 => (intro w hSw; (try dsimp only at hSw); go_simp; try (with_reducible rfl))
        (try simp only [Act.put, List.setIfInBounds_toArray, List.set_cons_zero, List.set_cons_succ, List.getElem_toArray, List.getElem_cons_zero, List.getElem_cons_succ])
        refine wpAnyH_take (i := 2) (v := ?_) rfl (by kernel_rfl) (by kernel_rfl) (by kernel_rfl) (fun _ _ _ h => h) (Or.inl ⟨by rfl, ?hy15⟩) (by assumption) ?rs15
        case hy15 => (intro w hSw; (try dsimp only at hSw); go_simp; try (with_reducible rfl))
        (try simp only [Act.put, List.setIfInBounds_toArray, List.set_cons_zero, List.set_cons_succ, List.getElem_toArray, List.getElem_cons_zero, List.getElem_cons_succ])
        refine wpAnyH_take (i := 3) (v := ?_) rfl (by kernel_rfl) (by kernel_rfl) (by kernel_rfl) (fun _ _ _ h => h) (Or.inl ⟨by rfl, ?hy16⟩) (by assumption) ?rs16
        case hy16 => (intro w hSw; (try dsimp only at hSw); go_simp; try (with_reducible rfl))
        (try simp only [Act.put, List.setIfInBounds_toArray, List.set_cons_zero, List.set_cons_succ, List.getElem_toArray, List.getElem_cons_zero, List.getElem_cons_succ])
        refine wpAnyH_take (i := 4) (v := ?_) rfl (by kernel_rfl) (by kernel_rfl) (by kernel_rfl) (fun _ _ _ h => h) (Or.inl ⟨by rfl, ?hy17⟩) (by assumption) ?rs17
        case hy17 => (intro w hSw; (try dsimp only at hSw); go_simp; try (with_reducible rfl))
        (try simp only [Act.put, List.setIfInBounds_toArray, List.set_cons_zero, List.set_cons_succ, List.getElem_toArray, List.getElem_cons_zero, List.getElem_cons_succ])
        refine wpAnyH_take (i := 5) (v := ?_) rfl (by kernel_rfl) (by kernel_rfl) (by kernel_rfl) (fun _ _ _ h => h) (Or.inl ⟨by rfl, ?hy18⟩) (by assumption) ?rs18
        case hy18 => (intro w hSw; (try dsimp only at hSw); go_simp; try (with_reducible rfl))
        (try simp only [Act.put, List.setIfInBounds_toArray, List.set_cons_zero, List.set_cons_succ, List.getElem_toArray, List.getElem_cons_zero, List.getElem_cons_succ])
        refine wpAnyH_take (i := 6) (v := ?_) rfl (by kernel_rfl) (by kernel_rfl) (by kernel_rfl) (fun _ _ _ h => h) (Or.inl ⟨by rfl, ?hy19⟩) (by assumption) ?rs19
        case hy19 => (intro w hSw; (try dsimp only at hSw); go_simp; try (with_reducible rfl))
        (try simp only [Act.put, List.setIfInBounds_toArray, List.set_cons_zero, List.set_cons_succ, List.getElem_toArray, List.getElem_cons_zero, List.getElem_cons_succ])
        refine wpAnyH_ready (rs := [7]) (by kernel_rfl) (by simp) ?_
        refine AllReadyH.cons rfl (fun K hK => ?_) ?_
        · go_simp
          refine (HGv.out _ (bdrew (Below.refl _ _))).mono ?_
          rintro e w5 ⟨Adw5, ndw5, cdw5, Bew5, mew5, dew5, rfl, hn1, hn2, hbn⟩
          have h8 : Below w4.heap.size w4 w5 := bthen (bdrew (Below.refl _ _)) hbn
          have HDw5 := hide (And.intro hn1 (And.intro hn2 h8))
          clear hn1 hn2 hbn h8
          refine hK.out _ _ (by exact (HS.out _ HDw5.out.2.2)) (fun hHeld => ?_)
          clear hK K
          (try simp only [Act.put, List.setIfInBounds_toArray, List.set_cons_zero, List.set_cons_succ, List.getElem_toArray, List.getElem_cons_zero, List.getElem_cons_succ])
          refine wpAnyH_take (i := 8) (v := ?_) rfl (by kernel_rfl) (by kernel_rfl) (by kernel_rfl) (fun _ _ _ h => h) (Or.inl ⟨by rfl, ?hy20⟩) (by assumption) ?rs20
          case hy20 => (intro w hSw; (try dsimp only at hSw); go_simp; try (with_reducible rfl))
          (try simp only [Act.put, List.setIfInBounds_toArray, List.set_cons_zero, List.set_cons_succ, List.getElem_toArray, List.getElem_cons_zero, List.getElem_cons_succ])
          refine wpAnyH_take (i := 9) (v := ?_) rfl (by kernel_rfl) (by kernel_rfl) (by kernel_rfl) (fun _ _ _ h => h) (Or.inl ⟨by rfl, ?hy21⟩) (by assumption) ?rs21
          case hy21 => (intro w hSw; (try dsimp only at hSw); go_simp; try (with_reducible rfl))
          (try simp only [Act.put, List.setIfInBounds_toArray, List.set_cons_zero, List.set_cons_succ, List.getElem_toArray, List.getElem_cons_zero, List.getElem_cons_succ])
          refine wpAnyH_take (i := 10) (v := ?_) rfl (by kernel_rfl) (by kernel_rfl) (by kernel_rfl) (fun _ _ _ h => h) (Or.inl ⟨by rfl, ?hy22⟩) (by assumption) ?rs22
          case hy22 => (intro w hSw; (try dsimp only at hSw); go_simp; try (with_reducible rfl))
          (try simp only [Act.put, List.setIfInBounds_toArray, List.set_cons_zero, List.set_cons_succ, List.getElem_toArray, List.getElem_cons_zero, List.getElem_cons_succ])
          refine wpAnyH_take (i := 11) (v := ?_) rfl (by kernel_rfl) (by kernel_rfl) (by kernel_rfl) (fun _ _ _ h => h) (Or.inl ⟨by rfl, ?hy23⟩) (by assumption) ?rs23
          case hy23 => (intro w hSw; (try dsimp only at hSw); go_simp; try (with_reducible rfl))
          (try simp only [Act.put, List.setIfInBounds_toArray, List.set_cons_zero, List.set_cons_succ, List.getElem_toArray, List.getElem_cons_zero, List.getElem_cons_succ])
          refine wpAnyH_take (i := 12) (v := ?_) rfl (by kernel_rfl) (by kernel_rfl) (by kernel_rfl) (fun _ _ _ h => h) (Or.inl ⟨by rfl, ?hy24⟩) (by assumption) ?rs24
          case hy24 => (intro w hSw; (try dsimp only at hSw); go_simp; try (with_reducible rfl))
          (try simp only [Act.put, List.setIfInBounds_toArray, List.set_cons_zero, List.set_cons_succ, List.getElem_toArray, List.getElem_cons_zero, List.getElem_cons_succ])
          refine wpAnyH_done (by kernel_rfl) ?_ _
          clear HS HGv
          go_upto_region 56 with (fail)
          generalize erU (mgB m0 m52 mn) = er at *
          obtain ⟨⟨g59, s59, t59⟩, hb2⟩ := H59.out w5 (bthen HDw4.out.2.2 HDw5.out.2.2)
          obtain ⟨⟨g56, s56, t56⟩, hb1⟩ := H56.out w5 hb2
          obtain ⟨x0, x1⟩ := g56.two
          obtain ⟨y0, y1⟩ := g59.two
          have l56 := g56.lt
          have l59 := g59.lt
          have hk := c_rSame q56 q59 _ _ w5 HN56.out.2.1 HN59.out.2.1 s56 s59
          rw [decide_eq_true (HN56.out.1.trans HN59.out.1.symm), decide_eq_true (rfl : (mgU m0 m52 mn).items = (mgU m0 m52 mn).items), Bool.and_self] at hk
          have HT := hide (And.intro t56 t59)
          have HB5 := hide hb1
          clear g59 g56 s59 s56 hb1 hb2 t56 t59
          go_wp2_with fail
          refine hk.mono ?_
          clear hk
          rintro e w6 ⟨rfl, hb6⟩
          clear x0 x1 y0 y1 l56 l59
          have hk := c_rInts A56 n56 c56 _ A59 n59 c59 _ w6 HN56.out.2.2 HN59.out.2.2 (HT.out.1.to' hb6) (HT.out.2.to' hb6)
          rw [decide_eq_true (rfl : mgN m0 m52 mn = mgN m0 m52 mn)] at hk
          have H6 := hide hb6
          clear hb6
          go_wp2_with fail
          refine hk.mono ?_
          clear hk
          rintro e w7 ⟨rfl, hb7⟩
          have hk := c_rSameItems Adw4 ndw4 cdw4 _ Adw5 ndw5 cdw5 _ w7 HDw4.out.1.1 HDw5.out.1.1 (HDw4.out.1.2.to' (bthen HDw5.out.2.2 (bthen H6.out hb7))) (HDw5.out.1.2.to' (bthen H6.out hb7))
          rw [decide_eq_true (rfl : dfI m0.items mn.items = dfI m0.items mn.items)] at hk
          have H7 := hide (bthen H6.out hb7)
          clear hb7
          go_wp2_with fail
          refine hk.mono ?_
          clear hk
          rintro e w8 ⟨rfl, hb8⟩
          have hk := c_rInts Bew4 mew4 dew4 _ Bew5 mew5 dew5 _ w8 HDw4.out.2.1.1 HDw5.out.2.1.1 (HDw4.out.2.1.2.to' (bthen HDw5.out.2.2 (bthen H7.out hb8))) (HDw5.out.2.1.2.to' (bthen H7.out hb8))
          rw [decide_eq_true (rfl : dfN m0.items mn.items = dfN m0.items mn.items)] at hk
          have H8 := hide (bthen H7.out hb8)
          clear hb8
          go_wp2_with fail
          refine hk.mono ?_
          clear hk
          rintro e w9 ⟨rfl, hb9⟩
          have H9 := hide (HB.out w9 (bthen HB5.out (bthen H8.out hb9))).2.2.2
          clear hb9
          go_wp2_with fail
          refine HQ.out _ _ ?_ H9.out
          exact ⟨rfl, rfl, fun i hi => by
              simp only [List.mem_cons, List.not_mem_nil, or_false] at hi
              rcases hi with rfl | rfl | rfl | rfl | rfl | rfl | rfl | rfl | rfl | rfl | rfl | rfl | rfl | rfl | rfl | rfl <;> first | rfl | exact H28.out.symm | exact H51.out.symm | exact H52.out.symm | exact H336.out.symm | exact H338.out.symm⟩
        exact AllReadyH.nil
      exact AllReadyH.nil

end Go.Proofs.YtncdombfhcfobaaGreat
