/- Replica: the reference's Merge. -/
import Derived.Test.YtcfbgelhggapjaaGreatDoorQ12
namespace Go.Proofs.YtcfbgelhggapjaaGreatDoor
open Go.RowKit Go.Shelf
theorem fold_succ (a n : List Rc) (k : Nat) (h : k < n.length) : (n.take (k + 1)).foldl putL a = putL ((n.take k).foldl putL a) (n[k]'h) := by
  rw [List.take_succ_eq_append_getElem h, List.foldl_append]; rfl
theorem fold_len (a : List Rc) : ∀ (n : List Rc), (n.foldl putL a).length = a.length + n.length
  | [] => rfl
  | x :: n => by rw [List.foldl_cons, fold_len (putL a x) n, len_putL, List.length_cons]; omega
theorem own_empty (W : World) (base : Nat) (h : base ≤ W.heap.size) : (W.alloc (.cells #[] 49)).ownsRow base 49 7 (.slice (some ⟨W.heap.size, 0, none⟩) 0 0) 0 [] :=
  ⟨rfl, .inr ⟨W.heap.size, 0, #[], rfl, h, World.alloc_heap_new W _, Nat.le_refl _, Nat.zero_le _, rfl, rfl⟩⟩
theorem own_lt {W : World} {b : Nat} {e : TypeId} {k n : Nat} {v : Value} {xs : List Value} (h : W.ownsRow b e k v n xs) : ∀ j, v.ownBlock = some j → j < W.heap.size := by
  intro j hj
  rcases h.2 with ⟨rfl, _⟩ | ⟨g, cap, cur, rfl, hb, hg, _⟩
  · cases hj
  · simp only [Value.ownBlock, Option.some.injEq] at hj
    subst hj
    exact (Array.getElem?_eq_some_iff.1 hg).1
theorem own_setNe {W : World} {b : Nat} {e : TypeId} {k n : Nat} {v : Value} {xs : List Value} (h : W.ownsRow b e k v n xs) (p : Addr) (hp : ∀ j, v.ownBlock = some j → j ≠ p.block) (u : Value) : (W.setCell p u).ownsRow b e k v n xs := by
  refine ⟨h.1, ?_⟩
  rcases h.2 with h | ⟨g, c', cur, rfl, q2, q3, q4⟩
  · exact .inl h
  · exact .inr ⟨g, c', cur, rfl, q2, (Below.heap_setCell W p u g (hp g rfl)).trans q3, q4⟩
set_option linter.unusedSimpArgs false in
set_option maxRecDepth 100000 in
set_option maxHeartbeats 8000000 in
theorem c_rMerge (p : Int) (A : Option Addr) (N c : Nat) (l : List Rc) (q : Int) (B : Option Addr) (M d : Nat) (k : List Rc) (w : World) (hN : N ≤ 9223372036854775807) (hM : M ≤ 9223372036854775807) (hr : SlR w w.heap.size 7 A N (l.flatMap cR)) (hs : SlR w w.heap.size 7 B M (k.flatMap cR)) :
    Calls Tryz.prog 27 #[rpV p A N c, rpV q B M d] w (RepPost p (mrgM p l q k) w) := by
  have hb0 := balloc (balloc (balloc (Below.refl w.heap.size w) (.cells #[.int .i64 p, .slice A N c] 25)) (.cells #[.int .i64 q, .slice B M d] 25)) (.cells #[.int .i64 0, .slice none 0 0] 25)
  obtain ⟨w0, hw0⟩ : ∃ w0, ((w.alloc (.cells #[.int .i64 p, .slice A N c] 25)).alloc (.cells #[.int .i64 q, .slice B M d] 25)).alloc (.cells #[.int .i64 0, .slice none 0 0] 25) = w0 := ⟨_, rfl⟩
  have gR : Blk w0 w.heap.size 25 [.int .i64 p, .slice A N c] := by rw [← hw0]; exact ((Blk.new w 25 [.int .i64 p, .slice A N c]).alloc _).alloc _
  have gQ : Blk w0 (w.heap.size + 1) 25 [.int .i64 q, .slice B M d] := by
    rw [← hw0]
    have := Blk.new (w.alloc (.cells #[.int .i64 p, .slice A N c] 25)) 25 [.int .i64 q, .slice B M d]
    rw [show (w.alloc (.cells #[.int .i64 p, .slice A N c] 25)).heap.size = w.heap.size + 1 from by simp] at this
    exact this.alloc _
  have gZ : Blk w0 (w.heap.size + 1 + 1) 25 [.int .i64 0, .slice none 0 0] := by
    rw [← hw0]
    have := Blk.new ((w.alloc (.cells #[.int .i64 p, .slice A N c] 25)).alloc (.cells #[.int .i64 q, .slice B M d] 25)) 25 [.int .i64 0, .slice none 0 0]
    rw [show ((w.alloc (.cells #[.int .i64 p, .slice A N c] 25)).alloc (.cells #[.int .i64 q, .slice B M d] 25)).heap.size = w.heap.size + 1 + 1 from by simp] at this
    exact this
  rw [hw0] at hb0
  have HW0 := hide hw0
  have HL := hide (And.intro hr.lenR hs.lenR)
  have hbe := c_rBehind p A N c l q B M d k w0 hN hM (hr.to' hb0) (hs.to' hb0)
  have HH : Hid (∀ W, Below w0.heap.size w0 W → Blk W w.heap.size 25 [.int .i64 p, .slice A N c] ∧ Blk W (w.heap.size + 1 + 1) 25 [.int .i64 0, .slice none 0 0] ∧ SlR W W.heap.size 7 A N (l.flatMap cR) ∧ Below w.heap.size w W) := hide (fun W h => ⟨gR.below h gR.lt, gZ.below h gZ.lt, hr.to' (bthen hb0 h), bthen hb0 h⟩)
  obtain ⟨r0, r1⟩ := gR.two
  obtain ⟨q0, q1⟩ := gQ.two
  have hl0 := gR.lt
  have hl1 := gQ.lt
  have hw0s : w0.heap.size = w.heap.size + 1 + 1 + 1 := by rw [← hw0]; simp
  unfold rpV
  unfold rpV at hbe
  clear hr hs hw0 gR gQ gZ hb0
  have hbm : behM p l q k = (mrgM p l q k).map (fun _ => newL l k) := mg_beh
  cases hmg : mrgM p l q k with
  | none =>
    rw [hmg] at hbm
    rw [hbm] at hbe
    clear hbm hmg
    go_enter Tryz.func27, Tryz.ntmps27
    go_wp2_with (go_at_call 29; rw [HW0.out]; refine hbe.mono ?_; clear hbe r0 r1 q0 q1; rintro e w1 ⟨hb1, ⟨-, rfl⟩ | ⟨m, A', c', hm, -⟩⟩; rotate_left; (simp at hm); obtain ⟨-, gZ, -, hbw⟩ := HH.out _ hb1; obtain ⟨z0, z1, z2, z3⟩ := gZ.all2; have hz := gZ.lt; have HB := hide hbw; clear gZ hbw hb1)
    exact bodyPost_ret (v := .tuple #[.agg #[.int .i64 0, .slice none 0 0], .int .i64 350]) (by simp [results, Tryz.results27, go_sem, z0, z1]) rfl ⟨(HB.out.setCell (by simp; omega) _).setCell (by simp; omega) _, .inl ⟨rfl, rfl⟩⟩
  | some mm =>
    rw [hmg] at hbm
    rw [hbm] at hbe
    obtain ⟨hok, hmm⟩ := mrg_some hmg
    have HMM := hide hmm
    have HVM := hide (mg_valid hok)
    obtain ⟨hva, hvb, hcon, hlen⟩ := mgOk_iff.1 hok
    have hl150 := (vr_iff.1 hva).2.1
    have hN150 : N ≤ 150 := by have := HL.out.1; omega
    have hnl : (newL l k).length ≤ 150 := by omega
    have HLEN := hide hlen
    obtain ⟨j0, hj0, hz0, hz1, hz2⟩ := info_parts Tryz.infoRec
    clear hbm hmg hok hmm hva hvb hcon hlen hl150
    go_enter Tryz.func27, Tryz.ntmps27
    go_upto_region 4 with (go_at_call 29; rw [HW0.out]; refine hbe.mono ?_; clear hbe r0 r1 q0 q1; rintro e w1 ⟨hb1, ⟨hc, -⟩ | ⟨m, A', c', hm, rfl, hm1, hm2, hm3⟩⟩; (simp at hc); (simp only [Option.map_some, Option.some.injEq] at hm); subst hm; have H1 := hide (And.intro hb1 hm3); clear hb1 hm3)
    have HNW : Hid (∃ nw, newL l k = nw) := hide ⟨_, rfl⟩
    obtain ⟨nw, hnw⟩ := HNW.out
    have HX := hide hnw
    have HW1 : Hid (∀ W, Below w1.heap.size w1 W → Blk W w.heap.size 25 [.int .i64 p, .slice A N c] ∧ Blk W (w.heap.size + 1 + 1) 25 [.int .i64 0, .slice none 0 0] ∧ SlR W W.heap.size 7 A N (l.flatMap cR) ∧ Below w.heap.size w W ∧ SlN W w0.heap.size 7 A' nw.length (nw.flatMap cR)) := hide (fun W h => by
      obtain ⟨g1, g2, g3, g4⟩ := HH.out W (bthen H1.out.1 h)
      refine ⟨g1, g2, g3, g4, ?_⟩
      rw [← HX.out]
      exact H1.out.2.to h)
    rw [hnw] at hm1 hnl HLEN ⊢
    have HS1 : Hid (∀ W, Below w1.heap.size w1 W → W.cell? ⟨w.heap.size, 0, none⟩ = some (.int .i64 p) ∧ W.cell? ⟨w.heap.size, 1, none⟩ = some (.slice A N c)) := hide (fun W h => (HW1.out W h).1.two)
    clear hnw HNW
    go_cut [8] from 19 to 25 (fun v wx => ∃ b A2 c2, v = .pointer (some ⟨b, 0, none⟩) ∧ w1.heap.size ≤ b ∧ N ≤ c2 ∧ c2 ≤ 9223372036854775807 ∧ Blk wx b 25 [.int .i64 p, .slice A2 N c2] ∧ SlN wx w1.heap.size 7 A2 N (l.flatMap cR) ∧ Below w1.heap.size w1 wx)
    case first =>
      refine wp_region_held_drew (S := fun W => W.cell? ⟨w.heap.size, 0, none⟩ = some (.int .i64 p) ∧ W.cell? ⟨w.heap.size, 1, none⟩ = some (.slice A N c)) (by kernel_rfl) (HS1.out _ (bdrew (Below.refl _ _))) (fun hHeld => ?_)
      refine wpAnyH_take (i := 0) (v := ?_) rfl (by kernel_rfl) (by kernel_rfl) (by kernel_rfl) (fun _ _ _ h => h) (Or.inl ⟨by rfl, ?hy1⟩) (by assumption) ?rs1
      case hy1 => (intro w hSw; (try dsimp only at hSw); go_simp; try (with_reducible rfl))
      (try simp only [Act.put, List.setIfInBounds_toArray, List.set_cons_zero, List.set_cons_succ, List.getElem_toArray, List.getElem_cons_zero, List.getElem_cons_succ])
      refine wpAnyH_take (i := 1) (v := ?_) rfl (by kernel_rfl) (by kernel_rfl) (by kernel_rfl) (fun _ _ _ h => h) (Or.inl ⟨by rfl, ?hy2⟩) (by assumption) ?rs2
      case hy2 => (intro w hSw; (try dsimp only at hSw); go_simp; try (with_reducible rfl))
      (try simp only [Act.put, List.setIfInBounds_toArray, List.set_cons_zero, List.set_cons_succ, List.getElem_toArray, List.getElem_cons_zero, List.getElem_cons_succ])
      refine wpAnyH_take (i := 3) (v := ?_) rfl (by kernel_rfl) (by kernel_rfl) (by kernel_rfl) (fun _ _ _ h => h) (Or.inl ⟨by rfl, ?hy3⟩) (by assumption) ?rs3
      case hy3 => (intro w hSw; (try dsimp only at hSw); go_simp; try (with_reducible rfl))
      (try simp only [Act.put, List.setIfInBounds_toArray, List.set_cons_zero, List.set_cons_succ, List.getElem_toArray, List.getElem_cons_zero, List.getElem_cons_succ])
      refine wpAnyH_take (i := 4) (v := ?_) rfl (by kernel_rfl) (by kernel_rfl) (by kernel_rfl) (fun _ _ _ h => h) (Or.inl ⟨by rfl, ?hy4⟩) (by assumption) ?rs4
      case hy4 => (intro w hSw; (try dsimp only at hSw); go_simp; try (with_reducible rfl))
      (try simp only [Act.put, List.setIfInBounds_toArray, List.set_cons_zero, List.set_cons_succ, List.getElem_toArray, List.getElem_cons_zero, List.getElem_cons_succ])
      have hE : (w1.alloc (.cells #[] 49)).drew.ownsRow w1.heap.size 49 7 (.slice (some ⟨w1.heap.size, 0, none⟩) 0 0) 0 [] := own_empty w1 w1.heap.size (Nat.le_refl _)
      have hba := bdrew (balloc (Below.refl w1.heap.size w1) (.cells #[] 49))
      have hbz := bdrew (balloc (Below.refl w1.heap.size w1) (.cells #[.int .i64 0, .slice none 0 0] 25))
      have hz : Blk (w1.alloc (.cells #[.int .i64 0, .slice none 0 0] 25)).drew w1.heap.size 25 [.int .i64 0, .slice none 0 0] := Blk.new w1 25 [.int .i64 0, .slice none 0 0]
      have hza : (w1.alloc (.cells #[.int .i64 0, .slice none 0 0] 25)).drew.heap.size = w1.heap.size + 1 := by simp
      have hwas : (w1.alloc (.cells #[] 49)).drew.heap.size = w1.heap.size + 1 := by simp
      refine wpAnyH_ready (rs := [2, 7]) (by kernel_rfl) (by simp) ?_
      refine AllReadyH.cons rfl (fun K hK => ?_) ?_
      · go_simp
        refine hK.out _ _ (by exact (HS1.out _ hba)) (fun hHeld => ?_)
        clear hK K
        (try simp only [Act.put, List.setIfInBounds_toArray, List.set_cons_zero, List.set_cons_succ, List.getElem_toArray, List.getElem_cons_zero, List.getElem_cons_succ])
        clear hbz hz hza
        generalize (w1.alloc (.cells #[] 49)).drew = wa at *
        have hla := (HW1.out _ hba).2.2.1
        refine wpAnyH_ready (rs := [5, 7]) (by kernel_rfl) (by simp) ?_
        refine AllReadyH.cons (o := { dst := some 24, op := Op.call { callee := Callee.builtin Builtin.append, args := #[Operand.tmp 21, Operand.tmp 23], argTypes := #[23, 23] }, type := 23, pos := "ref.go:172", after := #[{ on := 2, ground := Ground.data }, { on := 4, ground := Ground.data }], guard := none }) rfl (fun K hK => ?_) ?_
        · refine step_append_sl (size := 7) (by rfl) _ _ 23 (by rfl) w1.heap.size 49 j0 zV 64 Tryz.underlying23 hj0 hz0 hz1 hz2 (by rfl) (by decide) _ _ _ (by rfl) hE N c (l.flatMap cR) (by rfl) hla (Below.refl _ _) (fun u hu => oneR _ u hu) (by unfold maxLen; omega) (by omega) (by exact hba.size) ?_
          intro v8 w8 hown8 hgrow8 hor8
          rw [Nat.zero_add, List.nil_append] at hown8
          have hb8 := bgrown hba hgrow8 (own_ge hE)
          have hlt8 := own_lt hown8
          obtain ⟨Av, cv, rfl, hv1, hv2, hv3⟩ := SlR.of_own hown8
          refine hK.out _ _ (by exact (HS1.out _ hb8)) (fun hHeld => ?_)
          clear hK K
          (try simp only [Act.put, List.setIfInBounds_toArray, List.set_cons_zero, List.set_cons_succ, List.getElem_toArray, List.getElem_cons_zero, List.getElem_cons_succ])
          refine wpAnyH_take (i := 6) (v := ?_) rfl (by kernel_rfl) (by kernel_rfl) (by kernel_rfl) (fun _ _ _ h => h) (Or.inl ⟨by rfl, ?hy5⟩) (by assumption) ?rs5
          case hy5 => (intro w hSw; (try dsimp only at hSw); go_simp; try (with_reducible rfl))
          (try simp only [Act.put, List.setIfInBounds_toArray, List.set_cons_zero, List.set_cons_succ, List.getElem_toArray, List.getElem_cons_zero, List.getElem_cons_succ])
          refine wpAnyH_ready (rs := [7]) (by kernel_rfl) (by simp) ?_
          refine AllReadyH.cons rfl (fun K hK => ?_) ?_
          · go_simp
            refine hK.out _ _ (by exact (HS1.out _ (balloc hb8 _))) (fun hHeld => ?_)
            clear hK K
            (try simp only [Act.put, List.setIfInBounds_toArray, List.set_cons_zero, List.set_cons_succ, List.getElem_toArray, List.getElem_cons_zero, List.getElem_cons_succ])
            have hz := Blk.new w8 25 [.int .i64 0, .slice none 0 0]
            have hbz := balloc hb8 (.cells #[.int .i64 0, .slice none 0 0] 25)
            have hoz := hown8.alloc (.cells #[.int .i64 0, .slice none 0 0] 25)
            have hne : ∀ j, (Value.slice Av N cv).ownBlock = some j → j ≠ w8.heap.size := fun j e => by have := hlt8 j e; omega
            have hs8 := hb8.size
            generalize w8.alloc (.cells #[.int .i64 0, .slice none 0 0] 25) = wz at *
            obtain ⟨z0, z1, z2, z3⟩ := hz.all2
            have hzl := hz.lt
            refine wpAnyH_ready (rs := [8]) (by kernel_rfl) (by simp) ?_
            refine AllReadyH.cons rfl (fun K hK => ?_) ?_
            · go_simp
              refine hK.out _ _ (by exact (HS1.out _ (bset (bset hbz (by first | omega | (dsimp only; omega)) _) (by first | omega | (dsimp only; omega)) _))) (fun hHeld => ?_)
              clear hK K
              (try simp only [Act.put, List.setIfInBounds_toArray, List.set_cons_zero, List.set_cons_succ, List.getElem_toArray, List.getElem_cons_zero, List.getElem_cons_succ])
              refine wpAnyH_done (by kernel_rfl) ?_ _
              go_wp2_with fail
              go_meet
              refine ⟨w8.heap.size, Av, cv, rfl, by omega, hv1, by unfold maxLen at hv2; omega, (hz.set 0 (.int .i64 p)).set 1 (.slice Av N cv), own_sln (own_setNe (own_setNe hoz ⟨w8.heap.size, 0, none⟩ hne _) ⟨w8.heap.size, 1, none⟩ hne _), bset (bset hbz (by first | omega | (dsimp only; omega)) _) (by first | omega | (dsimp only; omega)) _⟩
            · exact AllReadyH.nil
          · exact AllReadyH.nil
        refine AllReadyH.cons rfl (fun K hK => ?_) ?_
        · go_simp
          refine hK.out _ _ (by exact (HS1.out _ (balloc hba _))) (fun hHeld => ?_)
          clear hK K
          (try simp only [Act.put, List.setIfInBounds_toArray, List.set_cons_zero, List.set_cons_succ, List.getElem_toArray, List.getElem_cons_zero, List.getElem_cons_succ])
          have hz := Blk.new wa 25 [.int .i64 0, .slice none 0 0]
          have hbz := balloc hba (.cells #[.int .i64 0, .slice none 0 0] 25)
          have hEz := hE.alloc (.cells #[.int .i64 0, .slice none 0 0] 25)
          rw [hwas] at hz
          have hbs : w1.heap.size + 1 < (wa.alloc (.cells #[.int .i64 0, .slice none 0 0] 25)).heap.size := by simp [hwas]
          generalize wa.alloc (.cells #[.int .i64 0, .slice none 0 0] 25) = wz at *
          have hla2 := (HW1.out _ hbz).2.2.1
          refine wpAnyH_ready (rs := [5]) (by kernel_rfl) (by simp) ?_
          refine AllReadyH.cons (o := { dst := some 24, op := Op.call { callee := Callee.builtin Builtin.append, args := #[Operand.tmp 21, Operand.tmp 23], argTypes := #[23, 23] }, type := 23, pos := "ref.go:172", after := #[{ on := 2, ground := Ground.data }, { on := 4, ground := Ground.data }], guard := none }) rfl (fun K hK => ?_) ?_
          · refine step_append_sl (size := 7) (by rfl) _ _ 23 (by rfl) w1.heap.size 49 j0 zV 64 Tryz.underlying23 hj0 hz0 hz1 hz2 (by rfl) (by decide) _ _ _ (by rfl) hEz N c (l.flatMap cR) (by rfl) hla2 (Below.refl _ _) (fun u hu => oneR _ u hu) (by unfold maxLen; omega) (by omega) (by exact hbz.size) ?_
            intro v8 w8 hown8 hgrow8 hor8
            rw [Nat.zero_add, List.nil_append] at hown8
            have hb8 := bgrown hbz hgrow8 (own_ge hEz)
            have hlt8 := own_lt hown8
            obtain ⟨Av, cv, rfl, hv1, hv2, hv3⟩ := SlR.of_own hown8
            refine hK.out _ _ (by exact (HS1.out _ hb8)) (fun hHeld => ?_)
            clear hK K
            (try simp only [Act.put, List.setIfInBounds_toArray, List.set_cons_zero, List.set_cons_succ, List.getElem_toArray, List.getElem_cons_zero, List.getElem_cons_succ])
            refine wpAnyH_take (i := 6) (v := ?_) rfl (by kernel_rfl) (by kernel_rfl) (by kernel_rfl) (fun _ _ _ h => h) (Or.inl ⟨by rfl, ?hy6⟩) (by assumption) ?rs6
            case hy6 => (intro w hSw; (try dsimp only at hSw); go_simp; try (with_reducible rfl))
            (try simp only [Act.put, List.setIfInBounds_toArray, List.set_cons_zero, List.set_cons_succ, List.getElem_toArray, List.getElem_cons_zero, List.getElem_cons_succ])
            have hz8 := hz.grown hgrow8 (fun e => by simp [Value.ownBlock] at e <;> omega)
            have hne : ∀ j, (Value.slice Av N cv).ownBlock = some j → j ≠ w1.heap.size + 1 := fun j e => by
              rcases hor8 with h | h
              · rw [h] at e; simp only [Value.ownBlock, Option.some.injEq] at e; omega
              · rw [h] at e; simp only [Option.some.injEq] at e; omega
            obtain ⟨z0, z1, z2, z3⟩ := hz8.all2
            have hzl := hz8.lt
            refine wpAnyH_ready (rs := [8]) (by kernel_rfl) (by simp) ?_
            refine AllReadyH.cons rfl (fun K hK => ?_) ?_
            · go_simp
              refine hK.out _ _ (by exact (HS1.out _ (bset (bset hb8 (by first | omega | (dsimp only; omega)) _) (by first | omega | (dsimp only; omega)) _))) (fun hHeld => ?_)
              clear hK K
              (try simp only [Act.put, List.setIfInBounds_toArray, List.set_cons_zero, List.set_cons_succ, List.getElem_toArray, List.getElem_cons_zero, List.getElem_cons_succ])
              refine wpAnyH_done (by kernel_rfl) ?_ _
              go_wp2_with fail
              go_meet
              refine ⟨w1.heap.size + 1, Av, cv, rfl, by omega, hv1, by unfold maxLen at hv2; omega, (hz8.set 0 (.int .i64 p)).set 1 (.slice Av N cv), own_sln (own_setNe (own_setNe hown8 ⟨w1.heap.size + 1, 0, none⟩ hne _) ⟨w1.heap.size + 1, 1, none⟩ hne _), bset (bset hb8 (by first | omega | (dsimp only; omega)) _) (by first | omega | (dsimp only; omega)) _⟩
            · exact AllReadyH.nil
          · exact AllReadyH.nil
        exact AllReadyH.nil
      clear hE hba hwas
      refine AllReadyH.cons rfl (fun K hK => ?_) ?_
      · go_simp
        refine hK.out _ _ (by exact (HS1.out _ hbz)) (fun hHeld => ?_)
        clear hK K
        (try simp only [Act.put, List.setIfInBounds_toArray, List.set_cons_zero, List.set_cons_succ, List.getElem_toArray, List.getElem_cons_zero, List.getElem_cons_succ])
        generalize (w1.alloc (.cells #[.int .i64 0, .slice none 0 0] 25)).drew = wz at *
        have hE := own_empty wz w1.heap.size (by omega)
        rw [hza] at hE
        have hba := balloc hbz (.cells #[] 49)
        have hsa : w1.heap.size + 1 < (wz.alloc (.cells #[] 49)).heap.size := by simp [hza]
        have hzE := hz.alloc (.cells #[] 49)
        refine wpAnyH_ready (rs := [2]) (by kernel_rfl) (by simp) ?_
        refine AllReadyH.cons rfl (fun K hK => ?_) ?_
        · go_simp
          refine hK.out _ _ (by exact (HS1.out _ hba)) (fun hHeld => ?_)
          clear hK K
          (try simp only [Act.put, List.setIfInBounds_toArray, List.set_cons_zero, List.set_cons_succ, List.getElem_toArray, List.getElem_cons_zero, List.getElem_cons_succ])
          generalize wz.alloc (.cells #[] 49) = wa at *
          have hla := (HW1.out _ hba).2.2.1
          refine wpAnyH_ready (rs := [5]) (by kernel_rfl) (by simp) ?_
          refine AllReadyH.cons (o := { dst := some 24, op := Op.call { callee := Callee.builtin Builtin.append, args := #[Operand.tmp 21, Operand.tmp 23], argTypes := #[23, 23] }, type := 23, pos := "ref.go:172", after := #[{ on := 2, ground := Ground.data }, { on := 4, ground := Ground.data }], guard := none }) rfl (fun K hK => ?_) ?_
          · refine step_append_sl (size := 7) (by rfl) _ _ 23 (by rfl) w1.heap.size 49 j0 zV 64 Tryz.underlying23 hj0 hz0 hz1 hz2 (by rfl) (by decide) _ _ _ (by rfl) hE N c (l.flatMap cR) (by rfl) hla (Below.refl _ _) (fun u hu => oneR _ u hu) (by unfold maxLen; omega) (by omega) (by exact hba.size) ?_
            intro v8 w8 hown8 hgrow8 hor8
            rw [Nat.zero_add, List.nil_append] at hown8
            have hb8 := bgrown hba hgrow8 (own_ge hE)
            have hlt8 := own_lt hown8
            obtain ⟨Av, cv, rfl, hv1, hv2, hv3⟩ := SlR.of_own hown8
            refine hK.out _ _ (by exact (HS1.out _ hb8)) (fun hHeld => ?_)
            clear hK K
            (try simp only [Act.put, List.setIfInBounds_toArray, List.set_cons_zero, List.set_cons_succ, List.getElem_toArray, List.getElem_cons_zero, List.getElem_cons_succ])
            refine wpAnyH_take (i := 6) (v := ?_) rfl (by kernel_rfl) (by kernel_rfl) (by kernel_rfl) (fun _ _ _ h => h) (Or.inl ⟨by rfl, ?hy7⟩) (by assumption) ?rs7
            case hy7 => (intro w hSw; (try dsimp only at hSw); go_simp; try (with_reducible rfl))
            (try simp only [Act.put, List.setIfInBounds_toArray, List.set_cons_zero, List.set_cons_succ, List.getElem_toArray, List.getElem_cons_zero, List.getElem_cons_succ])
            have hz8 := hzE.grown hgrow8 (fun e => by simp [Value.ownBlock] at e <;> omega)
            have hne : ∀ j, (Value.slice Av N cv).ownBlock = some j → j ≠ w1.heap.size := fun j e => by
              rcases hor8 with h | h
              · rw [h] at e; simp only [Value.ownBlock, Option.some.injEq] at e; omega
              · rw [h] at e; simp only [Option.some.injEq] at e; have := hsa; omega
            obtain ⟨z0, z1, z2, z3⟩ := hz8.all2
            have hzl := hz8.lt
            refine wpAnyH_ready (rs := [8]) (by kernel_rfl) (by simp) ?_
            refine AllReadyH.cons rfl (fun K hK => ?_) ?_
            · go_simp
              refine hK.out _ _ (by exact (HS1.out _ (bset (p := ⟨w1.heap.size, 1, none⟩) (bset (p := ⟨w1.heap.size, 0, none⟩) hb8 (Nat.le_refl _) _) (Nat.le_refl _) _))) (fun hHeld => ?_)
              clear hK K
              (try simp only [Act.put, List.setIfInBounds_toArray, List.set_cons_zero, List.set_cons_succ, List.getElem_toArray, List.getElem_cons_zero, List.getElem_cons_succ])
              refine wpAnyH_done (by kernel_rfl) ?_ _
              go_wp2_with fail
              go_meet
              refine ⟨w1.heap.size, Av, cv, rfl, Nat.le_refl _, hv1, by unfold maxLen at hv2; omega, (hz8.set 0 (.int .i64 p)).set 1 (.slice Av N cv), own_sln (own_setNe (own_setNe hown8 ⟨w1.heap.size, 0, none⟩ hne _) ⟨w1.heap.size, 1, none⟩ hne _), bset (p := ⟨w1.heap.size, 1, none⟩) (bset (p := ⟨w1.heap.size, 0, none⟩) hb8 (Nat.le_refl _) _) (Nat.le_refl _) _⟩
            · exact AllReadyH.nil
          · exact AllReadyH.nil
        · exact AllReadyH.nil
      exact AllReadyH.nil
    case rest =>
      obtain ⟨b, A2, c2, rfl, hbb, hc1, hc2, gB, hsl, hb⟩ := hcut
      have H0 := hide (And.intro gB (And.intro hsl hb))
      have hw1s : w0.heap.size ≤ w1.heap.size := H1.out.1.size
      clear gB hsl hb
      go_wp2_with fail
      go_loopw [9] (fun i wr => ∃ (j : Nat) (A3 : Option Addr) (c3 : Nat), j ≤ nw.length ∧ i = .int .i64 j ∧ N + j ≤ c3 ∧ c3 ≤ 9223372036854775807 ∧ Blk wr b 25 [.int .i64 p, .slice A3 (N + j) c3] ∧ SlN wr w1.heap.size 7 A3 (N + j) (((nw.take j).foldl putL l).flatMap cR) ∧ Below w1.heap.size w1 wr) (fun i _ => nw.length - (intOf i).toNat)
      case atStart => exact ⟨0, A2, c2, Nat.zero_le _, rfl, hc1, hc2, H0.out.1, H0.out.2.1, H0.out.2.2⟩
      case round =>
        clear H0 hc1 hc2
        obtain ⟨j, A3, c3, hj, rfl, hc1, hc2, gB, hsl, hb⟩ := hrel
        obtain ⟨b0, b1, b2, b3⟩ := gB.all2
        have hbl := gB.lt
        by_cases hlt : j < nw.length
        · have hji : (j : Int) < (nw.length : Int) := by omega
          have HFS := hide (fold_succ l nw j hlt)
          have hsn := (HW1.out wr hb).2.2.2.2
          obtain ⟨b', off, rfl, hb'⟩ := hsn.1.some_of (by omega)
          have HS2 : Hid (∀ W, Below w1.heap.size w1 W → W.cell? ⟨b', off + j * 7, none⟩ = some (.int .i64 (nw[j]'hlt).pen) ∧ W.cell? ⟨b', off + j * 7 + 1, none⟩ = some (.int .i64 (nw[j]'hlt).num) ∧ W.cell? ⟨b', off + j * 7 + 2, none⟩ = some (.int .i64 (nw[j]'hlt).at_) ∧ W.cell? ⟨b', off + j * 7 + 3, none⟩ = some (.int .i64 (nw[j]'hlt).of) ∧ W.cell? ⟨b', off + j * 7 + 4, none⟩ = some (.int .i64 (nw[j]'hlt).which) ∧ W.cell? ⟨b', off + j * 7 + 5, none⟩ = some (.int .i64 (nw[j]'hlt).kind) ∧ W.cell? ⟨b', off + j * 7 + 6, none⟩ = some (.string (nw[j]'hlt).text)) := hide (fun W h => ((HW1.out W h).2.2.2.2.1.cellsR (Below.refl _ _) hlt).2)
          have hpt := c_rput A3 (N + j) c3 ((nw.take j).foldl putL l) (nw[j]'hlt) wr.drew (by omega) hc1 hsl.1
          rw [← HFS.out] at hpt
          generalize nw[j]'hlt = r at *
          obtain ⟨rp, rn, rt, ro, rw', rk, rx⟩ := r
          dsimp only at HS2
          unfold rcV at hpt
          dsimp only at hpt
          have HB := hide (And.intro gB hb)
          clear gB hb hsl hsn HFS
          obtain ⟨mj, hmj⟩ : ∃ mj, (nw.take (j + 1)).foldl putL l = mj := ⟨_, rfl⟩
          rw [hmj] at hpt
          have HMJ := hide hmj
          clear hmj
          go_upto_region 8 with (fail)
          refine wp_region_held_drew (S := fun W => W.cell? ⟨b', off + j * 7, none⟩ = some (.int .i64 rp) ∧ W.cell? ⟨b', off + j * 7 + 1, none⟩ = some (.int .i64 rn) ∧ W.cell? ⟨b', off + j * 7 + 2, none⟩ = some (.int .i64 rt) ∧ W.cell? ⟨b', off + j * 7 + 3, none⟩ = some (.int .i64 ro) ∧ W.cell? ⟨b', off + j * 7 + 4, none⟩ = some (.int .i64 rw') ∧ W.cell? ⟨b', off + j * 7 + 5, none⟩ = some (.int .i64 rk) ∧ W.cell? ⟨b', off + j * 7 + 6, none⟩ = some (.string rx)) (by kernel_rfl) (HS2.out _ (bdrew HB.out.2)) (fun hHeld => ?_)
          refine wpAnyH_take (i := 0) (v := ?_) rfl (by kernel_rfl) (by kernel_rfl) (by kernel_rfl) (fun _ _ _ h => h) (Or.inl ⟨by rfl, ?hy8⟩) (by assumption) ?rs8
          case hy8 => (intro w hSw; (try dsimp only at hSw); go_simp; try (with_reducible rfl))
          (try simp only [Act.put, List.setIfInBounds_toArray, List.set_cons_zero, List.set_cons_succ, List.getElem_toArray, List.getElem_cons_zero, List.getElem_cons_succ])
          refine wpAnyH_take (i := 2) (v := ?_) rfl (by kernel_rfl) (by kernel_rfl) (by kernel_rfl) (fun _ _ _ h => h) (Or.inl ⟨by rfl, ?hy9⟩) (by assumption) ?rs9
          case hy9 => (intro w hSw; (try dsimp only at hSw); go_simp; try (with_reducible rfl))
          (try simp only [Act.put, List.setIfInBounds_toArray, List.set_cons_zero, List.set_cons_succ, List.getElem_toArray, List.getElem_cons_zero, List.getElem_cons_succ])
          refine wpAnyH_take (i := 3) (v := ?_) rfl (by kernel_rfl) (by kernel_rfl) (by kernel_rfl) (fun _ _ _ h => h) (Or.inl ⟨by rfl, ?hy10⟩) (by assumption) ?rs10
          case hy10 => (intro w hSw; (try dsimp only at hSw); go_simp; try (with_reducible rfl))
          (try simp only [Act.put, List.setIfInBounds_toArray, List.set_cons_zero, List.set_cons_succ, List.getElem_toArray, List.getElem_cons_zero, List.getElem_cons_succ])
          refine wpAnyH_take (i := 4) (v := ?_) rfl (by kernel_rfl) (by kernel_rfl) (by kernel_rfl) (fun _ _ _ h => h) (Or.inl ⟨by rfl, ?hy11⟩) (by assumption) ?rs11
          case hy11 => (intro w hSw; (try dsimp only at hSw); go_simp; try (with_reducible rfl))
          (try simp only [Act.put, List.setIfInBounds_toArray, List.set_cons_zero, List.set_cons_succ, List.getElem_toArray, List.getElem_cons_zero, List.getElem_cons_succ])
          refine wpAnyH_take (i := 5) (v := ?_) rfl (by kernel_rfl) (by kernel_rfl) (by kernel_rfl) (fun _ _ _ h => h) (Or.inl ⟨by rfl, ?hy12⟩) (by assumption) ?rs12
          case hy12 => (intro w hSw; (try dsimp only at hSw); go_simp; try (with_reducible rfl))
          (try simp only [Act.put, List.setIfInBounds_toArray, List.set_cons_zero, List.set_cons_succ, List.getElem_toArray, List.getElem_cons_zero, List.getElem_cons_succ])
          refine wpAnyH_ready (rs := [1]) (by kernel_rfl) (by simp) ?_
          refine AllReadyH.cons rfl (fun K hK => ?_) ?_
          · go_simp
            refine hK.out _ _ (by exact (HS2.out _ (bdrew HB.out.2))) (fun hHeld => ?_)
            clear hK K
            (try simp only [Act.put, List.setIfInBounds_toArray, List.set_cons_zero, List.set_cons_succ, List.getElem_toArray, List.getElem_cons_zero, List.getElem_cons_succ])
            refine wpAnyH_ready (rs := [6]) (by kernel_rfl) (by simp) ?_
            refine AllReadyH.cons rfl (fun K hK => ?_) ?_
            · go_simp
              refine hpt.mono ?_
              clear hpt
              rintro e w5 ⟨v, rfl, hown, hb5⟩
              have h5 := bthen (bdrew HB.out.2) hb5
              have gB5 := HB.out.1.below (bthen (bdrew (Below.refl wr.heap.size wr)) hb5) HB.out.1.lt
              obtain ⟨y0, y1, y2, y3⟩ := gB5.all2
              have hbl5 := gB5.lt
              obtain ⟨Av, cv, rfl, hv1, hv2, _⟩ := SlR.of_own hown
              have hws : w1.heap.size ≤ wr.drew.heap.size := HB.out.2.size
              have HO := hide (And.intro hown (And.intro h5 (And.intro gB5 (And.intro hv1 hv2))))
              clear hown hb5 h5 gB5 hv1 hv2
              refine hK.out _ _ (by exact (HS2.out _ HO.out.2.1)) (fun hHeld => ?_)
              clear hK K
              (try simp only [Act.put, List.setIfInBounds_toArray, List.set_cons_zero, List.set_cons_succ, List.getElem_toArray, List.getElem_cons_zero, List.getElem_cons_succ])
              refine wpAnyH_take (i := 7) (v := ?_) rfl (by kernel_rfl) (by kernel_rfl) (by kernel_rfl) (fun _ _ _ h => h) (Or.inl ⟨by rfl, ?hy13⟩) (by assumption) ?rs13
              case hy13 => (intro w hSw; (try dsimp only at hSw); go_simp; try (with_reducible rfl))
              (try simp only [Act.put, List.setIfInBounds_toArray, List.set_cons_zero, List.set_cons_succ, List.getElem_toArray, List.getElem_cons_zero, List.getElem_cons_succ])
              refine wpAnyH_ready (rs := [8]) (by kernel_rfl) (by simp) ?_
              refine AllReadyH.cons rfl (fun K hK => ?_) ?_
              · go_simp
                refine hK.out _ _ (by exact (HS2.out _ (bset (p := ⟨b, 1, none⟩) HO.out.2.1 hbb _))) (fun hHeld => ?_)
                clear hK K
                (try simp only [Act.put, List.setIfInBounds_toArray, List.set_cons_zero, List.set_cons_succ, List.getElem_toArray, List.getElem_cons_zero, List.getElem_cons_succ])
                refine wpAnyH_done (by kernel_rfl) ?_ _
                go_wp2_with fail
                obtain ⟨h1, h2, h3, h6, h7⟩ := HO.out
                refine ⟨⟨j + 1, Av, cv, hlt, rfl, by omega, by unfold maxLen at h7; omega, h3.set 1 (.slice Av (N + j + 1) cv), by rw [HMJ.out]; exact (own_sln (own_set h1 ⟨b, 1, none⟩ hbl _)).mono hws, bset h2 (by exact hbb) _⟩, ?_⟩
                show nw.length - ((j : Int) + 1).toNat < nw.length - ((j : Nat) : Int).toNat
                omega
              · exact AllReadyH.nil
            · exact AllReadyH.nil
          · exact AllReadyH.nil
        · obtain rfl : j = nw.length := by omega
          have hm : (nw.take nw.length).foldl putL l = mm := by rw [List.take_length, HMM.out, mgL, HX.out]
          rw [hm] at hsl
          have hml : mm.length = N + nw.length := by rw [← hm, List.take_length, fold_len, HL.out.1]
          have hcv := c_rValid p A3 (N + nw.length) c3 mm wr hsl.1 (by omega)
          rw [← HMM.out] at HVM
          rw [HVM.out] at hcv
          unfold rpV at hcv
          obtain ⟨gR, gZ, _, hbw, _⟩ := HW1.out wr hb
          have HF := hide (And.intro gZ (And.intro hsl (And.intro hbw gB)))
          have HML := hide hml
          clear gB hsl hb gR gZ hbw hm hml
          generalize nw.length = nn at *
          go_wp2_with (go_at_call 17; refine hcv.mono ?_; clear hcv b0 b1; rintro e w5 ⟨rfl, hb5⟩; obtain ⟨x0, x1, x2, x3⟩ := (HF.out.2.2.2.below hb5 HF.out.2.2.2.lt).all2; obtain ⟨z0, z1, z2, z3⟩ := (HF.out.1.below hb5 HF.out.1.lt).all2; have hz5 := (HF.out.1.below hb5 HF.out.1.lt).lt; have hx5 := (HF.out.2.2.2.below hb5 HF.out.2.2.2.lt).lt; have HB5 := hide hb5; clear hb5)
          obtain ⟨gZ, hsl, hbw, gB⟩ := HF.out
          refine bodyPost_ret (v := .tuple #[.agg #[.int .i64 p, .slice A3 (N + nn) c3], .int .i64 0]) (by simp [results, Tryz.results27, go_sem, z0, z1]) rfl ⟨((bthen hbw HB5.out).setCell (by simp; omega) _).setCell (by simp; omega) _, .inr ⟨mm, A3, c3, rfl, by rw [HML.out], by rw [HML.out]; exact hc1, hc2, ?_⟩⟩
          rw [HML.out]
          exact (((hsl.to HB5.out).set ⟨w.heap.size + 1 + 1, 0, none⟩ (by simp; omega) _).set ⟨w.heap.size + 1 + 1, 1, none⟩ (by simp; omega) _).mono (by omega)
end Go.Proofs.YtcfbgelhggapjaaGreatDoor
/- Replica: pick; three replicas in a row; what Made does in one step. -/
namespace Go.Proofs.YtcfbgelhggapjaaGreatDoor
open Go.RowKit Go.Shelf
theorem c_rpick (c n : Int) (w : World) (hc : -9223372036854775808 ≤ c) (hc' : c ≤ 9223372036854775807) (hn : 1 ≤ n) (hn' : n ≤ 9223372036854775807) :
    Calls Tryz.prog 42 #[.int .i64 c, .int .i64 n] w fun e w' => e = .returned (.int .i64 (pk c n)) ∧ w = w' := by
  by_cases h : c < 0
  · go_enter Tryz.func42, Tryz.ntmps42
    go_wp2
    go_ret
    exact ⟨ret_int (by unfold pk; rw [if_pos h, ← Int.neg_tmod, Int.tmod_eq_emod_of_nonneg (by omega)]), rfl⟩
  · go_enter Tryz.func42, Tryz.ntmps42
    go_wp2
    go_ret
    exact ⟨ret_int (by unfold pk; rw [if_neg (by omega)]), rfl⟩
theorem c_lpick (c n : Int) (w : World) (hc : -9223372036854775808 ≤ c) (hc' : c ≤ 9223372036854775807) (hn : 1 ≤ n) (hn' : n ≤ 9223372036854775807) :
    Calls Tryz.prog 21 #[.int .i64 c, .int .i64 n] w fun e w' => e = .returned (.int .i64 (pk c n)) ∧ w = w' := by
  by_cases h : c < 0
  · go_enter Tryz.func21, Tryz.ntmps21
    go_wp2
    go_ret
    exact ⟨ret_int (by unfold pk; rw [if_pos h, ← Int.neg_tmod, Int.tmod_eq_emod_of_nonneg (by omega)]), rfl⟩
  · go_enter Tryz.func21, Tryz.ntmps21
    go_wp2
    go_ret
    exact ⟨ret_int (by unfold pk; rw [if_neg (by omega)]), rfl⟩
/-- four numbers of a word -/
def ok4 (s : I4) : Prop := (-9223372036854775808 ≤ s.1 ∧ s.1 ≤ 9223372036854775807) ∧ (-9223372036854775808 ≤ s.2.1 ∧ s.2.1 ≤ 9223372036854775807) ∧ (-9223372036854775808 ≤ s.2.2.1 ∧ s.2.2.1 ≤ 9223372036854775807) ∧ (-9223372036854775808 ≤ s.2.2.2 ∧ s.2.2.2 ≤ 9223372036854775807)
/-- three replicas of the pens 0, 1, 2 in one block -/
def RpT (W : World) (lo g : Nat) (L : List (List Rc)) : Prop :=
  ∃ (cs : List Value) (As : Nat → Option Addr) (ks : Nat → Nat), Blk W g 25 cs ∧ cs.length = 6 ∧ ∀ i, i < 3 → cs[i * 2]? = some (.int .i64 i) ∧ cs[i * 2 + 1]? = some (.slice (As i) (L[i]!).length (ks i)) ∧ (L[i]!).length ≤ ks i ∧ ks i ≤ 9223372036854775807 ∧ SlN W lo 7 (As i) (L[i]!).length ((L[i]!).flatMap cR)
theorem RpT.lt {W : World} {lo g : Nat} {L : List (List Rc)} (h : RpT W lo g L) : g < W.heap.size := by
  obtain ⟨cs, As, ks, h1, _⟩ := h
  exact h1.lt
theorem RpT.to {W W' : World} {lo g : Nat} {L : List (List Rc)} (h : RpT W lo g L) (hb : Below W.heap.size W W') : RpT W' lo g L := by
  obtain ⟨cs, As, ks, h1, h2, h3⟩ := h
  exact ⟨cs, As, ks, h1.below hb h1.lt, h2, fun i hi => by
    obtain ⟨g1, g2, g3, g4, g5⟩ := h3 i hi
    exact ⟨g1, g2, g3, g4, g5.to hb⟩⟩
theorem RpT.get {W : World} {lo g : Nat} {L : List (List Rc)} (h : RpT W lo g L) {k : Nat} (hk : k < 3) : ∃ A c, (L[k]!).length ≤ c ∧ c ≤ 9223372036854775807 ∧ SlN W lo 7 A (L[k]!).length ((L[k]!).flatMap cR) ∧
    ∀ W', Below W.heap.size W W' → W'.cell? ⟨g, k * 2, none⟩ = some (.int .i64 k) ∧ W'.cell? ⟨g, k * 2 + 1, none⟩ = some (.slice A (L[k]!).length c) ∧ W'.frozen? ⟨g, k * 2, none⟩ = false ∧ W'.frozen? ⟨g, k * 2 + 1, none⟩ = false := by
  obtain ⟨cs, As, ks, h1, h2, h3⟩ := h
  obtain ⟨g1, g2, g3, g4, g5⟩ := h3 k hk
  exact ⟨As k, ks k, g3, g4, g5, fun W' hb => by
    have := h1.below hb h1.lt
    exact ⟨(this.cell _).trans g1, (this.cell _).trans g2, this.free _, this.free _⟩⟩
theorem RpT.set {W : World} {lo g : Nat} {L : List (List Rc)} (h : RpT W lo g L) (hlo : g < lo) (hL : L.length = 3) {k : Nat} (hk : k < 3) {A : Option Addr} {c : Nat} {m : List Rc} (h1 : m.length ≤ c) (h2 : c ≤ 9223372036854775807) (h3 : SlN W lo 7 A m.length (m.flatMap cR)) :
    RpT ((W.setCell ⟨g, k * 2, none⟩ (.int .i64 k)).setCell ⟨g, k * 2 + 1, none⟩ (.slice A m.length c)) lo g (L.set k m) := by
  obtain ⟨cs, As, ks, q1, q2, q3⟩ := h
  refine ⟨(cs.set (k * 2) (.int .i64 k)).set (k * 2 + 1) (.slice A m.length c), fun i => if i = k then A else As i, fun i => if i = k then c else ks i, (q1.set (k * 2) (.int .i64 k)).set (k * 2 + 1) (.slice A m.length c), by simp [q2], fun i hi => ?_⟩
  obtain ⟨g1, g2, g3, g4, g5⟩ := q3 i hi
  have hs : ∀ {A' : Option Addr} {n : Nat} {xs : List Value}, SlN W lo 7 A' n xs → SlN ((W.setCell ⟨g, k * 2, none⟩ (.int .i64 k)).setCell ⟨g, k * 2 + 1, none⟩ (.slice A m.length c)) lo 7 A' n xs := fun h => (h.set _ hlo _).set _ hlo _
  rw [set_get (by omega)]
  by_cases e : i = k
  · subst e
    simp only [if_true]
    refine ⟨?_, ?_, h1, h2, hs h3⟩
    · rw [List.getElem?_set_ne (by omega), List.getElem?_set_self (by omega)]
    · rw [List.getElem?_set_self (by simp; omega)]
  · simp only [if_neg e]
    refine ⟨?_, ?_, g3, g4, hs g5⟩
    · rw [List.getElem?_set_ne (by omega), List.getElem?_set_ne (by omega)]; exact g1
    · rw [List.getElem?_set_ne (by omega), List.getElem?_set_ne (by omega)]; exact g2
/-- the list that a step puts in the pen's place -/
def stpO (L : List (List Rc)) (x : I4) : Option (List Rc) :=
  let k := pkN x.2.1 3
  let l := L[k]!
  let at_ := atL k (pk x.2.2.2 4) l
  match pkN x.1 3 with
  | 0 => addM k l ⟨0, 0, at_, -1, 0, pk x.2.2.1 16, wdL[pkN (x.2.2.1.tdiv 16) 5]!⟩
  | 1 => if l.length = 0 then some l else
    let o := l[pkN x.2.2.1 l.length]!
    corM k l ⟨0, 0, max at_ (o.at_ + 1), o.pen, o.num, pk x.2.2.2 16, wdL[pkN x.2.2.2 5]!⟩
  | _ => let j := (k + 1 + pkN x.2.2.1 2) % 3
    mrgM k l j (L[j]!)
theorem set_self (L : List (List Rc)) (k : Nat) : L.set k (L[k]!) = L := by
  by_cases h : k < L.length
  · rw [bang h, List.set_getElem_self]
  · rw [List.set_eq_of_length_le (by omega)]
theorem stp_eq (L : List (List Rc)) (x : I4) : stpM L x = match stpO L x with | some m => L.set (pkN x.2.1 3) m | none => L := by
  unfold stpM stpO
  dsimp only
  generalize pkN x.2.1 3 = k
  generalize pkN x.1 3 = c
  match c with
  | 0 => rfl
  | 1 =>
    by_cases h : (L[k]!).length = 0
    · rw [if_pos h, if_pos h]
      exact (set_self L k).symm
    · rw [if_neg h, if_neg h]
      rfl
  | n + 2 => rfl
end Go.Proofs.YtcfbgelhggapjaaGreatDoor
