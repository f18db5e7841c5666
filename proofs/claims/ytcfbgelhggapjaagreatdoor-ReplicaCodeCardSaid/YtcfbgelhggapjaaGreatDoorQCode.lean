/- Replica: the law of the code. -/
import Derived.Test.YtcfbgelhggapjaaGreatDoorQ20
import Derived.Test.YtcfbgelhggapjaaGreatDoorQ16
import Derived.Test.YtcfbgelhggapjaaGreatDoorQ17
import Derived.ChangeMaps5
namespace Go.Proofs.YtcfbgelhggapjaaGreatDoor
open Go.RowKit Go.Shelf
set_option linter.unusedSimpArgs false in
set_option maxRecDepth 100000 in
set_option maxHeartbeats 16000000 in
theorem c_Code (A : Option Addr) (N c : Nat) (xs : List I4) (s : ByteArray) (at_ : Int) (bz : Nat) (w : World) (hR : RL w) (hN : N ≤ 9223372036854775807) (hx : ∀ x ∈ xs, ok4 x) (hl : xs.length = N) (hr : SlR w w.heap.size 4 A xs.length (xs.flatMap c4))
    (ha1 : -9223372036854775808 ≤ at_) (ha2 : at_ ≤ 9223372036854775807) (hbz : bz < 256) :
    Calls Tryz.prog 9 #[.slice A N c, .string s, .int .i64 at_, .int .u8 (bz : Int)] w fun e w' => e = .returned (.bool true) ∧ Below w.heap.size w w' := by
  have hw0 := hR.lt
  have HRw := hide hR
  have HX := hide (And.intro hx (And.intro hl hr))
  clear hx hl hr
  obtain ⟨l0, hl0⟩ : ∃ l0, (madL xs)[0]! = l0 := ⟨_, rfl⟩
  obtain ⟨n, hn⟩ : ∃ n, l0.length = n := ⟨_, rfl⟩
  obtain ⟨G, hI⟩ := mad_inv xs
  have hn24 : n ≤ 24 := by rw [← hn, ← hl0]; exact hI.lenk (by omega)
  have HF : Hid (∀ r ∈ l0, fmB r = true) := hide (fun r hr => (hI.vl 0 (by omega)).fm r (by rw [hl0]; exact hr))
  have HL := hide (And.intro hl0 hn)
  clear hl0 hn hI
  have hmn : ((min (s.size : Int) 60) : Int) = ((min s.size 60 : Nat) : Int) := by omega
  have hmn2 : (min s.size 60 : Nat) ≤ s.size := by omega
  go_enter Tryz.func9, Tryz.ntmps9
  go_upto_region 2 with (go_at_call 10; refine (c_lsane w HRw.out).mono ?_; rintro e w1 ⟨rfl, hb1⟩; have HB1 := hide hb1; clear hb1)
  go_upto_region 5 with (go_at_call 11; refine (c_Made A N c xs w1 hN HX.out.1 HX.out.2.1 (HX.out.2.2.to' HB1.out)).mono ?_; rintro e w2 ⟨rfl, hT, hb2⟩; obtain ⟨A0, c0, k0, k0', h0⟩ := hT.bx (k := 0) (by omega) HL.out.1 HL.out.2; have HB2 := hide (And.intro hb2 (And.intro (bthen HB1.out hb2) (HRw.out.to' (bthen HB1.out hb2)))); have H0 : Hid (∀ W, Below w2.heap.size w2 W → W.cell? ⟨w1.heap.size, 0, none⟩ = some (.int .i64 0) ∧ W.cell? ⟨w1.heap.size, 1, none⟩ = some (.slice A0 n c0) ∧ w1.heap.size < W.heap.size ∧ SlR W W.heap.size 7 A0 n (l0.flatMap cR)) := hide h0; clear hb2 hT h0; obtain ⟨x0, x1, x2, x3⟩ := H0.out w2 (Below.refl _ _); clear x3)
  clear x0 x1 x2
  go_upto_region 6 with (fail)
  obtain ⟨sx, hsx⟩ : ∃ sx, s.extract 0 (min s.size 60) = sx := ⟨_, rfl⟩
  have hsx60 : sx.size ≤ 6000 := by rw [← hsx]; simp only [ByteArray.size_extract]; omega
  try rw [hsx]
  clear hsx hmn hmn2
  have HW2 : Hid (∀ W, Below w2.heap.size w2 W → SlR W W.heap.size 7 A0 n (l0.flatMap cR) ∧ RL W ∧ Below w.heap.size w W) := hide (fun W h => ⟨(H0.out W h).2.2.2, HB2.out.2.2.to' h, bthen HB2.out.2.1 h⟩)
  obtain ⟨j0, hj0, hz0, hz1, hz2⟩ := info_parts Tryz.infoStr
  have hcv2 := fun w s => run_bytes_of_string (P := Tryz.prog) w 9 63 5 s Tryz.underlying9 Tryz.underlying63 Tryz.underlying5
  have hol := own_lit w2 sx
  have hb3 := balloc (Below.refl w2.heap.size w2) (.cells #[.string sx] 9)
  generalize w2.alloc (.cells #[.string sx] 9) = w3 at *
  have HO3 := hide (And.intro hol hb3)
  clear hol hb3
  go_wp2_with fail
  go_loopw [11, 12] (fun v i W => ∃ (k : Nat) (ws : List ByteArray), k ≤ n ∧ i = .int .i64 k ∧ ws.length = 1 + 3 * k ∧ Hid (∀ x ∈ ws, x.size ≤ 6000) ∧ W.ownsRow w2.heap.size 9 1 v ws.length (sV ws) ∧ Below w2.heap.size w2 W) (fun _ i _ => n - (intOf i).toNat)
  case atStart => exact ⟨0, [sx], Nat.zero_le _, rfl, rfl, hide (fun x hx => by rw [List.mem_singleton.1 hx]; exact hsx60), HO3.out.1, HO3.out.2⟩
  case round =>
    obtain ⟨k, ws, hk, rfl, hws, hsz, hown, hb⟩ := hrel
    obtain ⟨wo, rfl⟩ : ∃ wo, wo = wr := ⟨_, rfl⟩
    have hm24 : ws.length ≤ 100 := by omega
    have HWs := hide hws
    clear hws
    obtain ⟨m, hm⟩ : ∃ m, ws.length = m := ⟨_, rfl⟩
    rw [hm] at hown HWs hm24
    have HM := hide hm
    clear hm
    obtain ⟨Av, cv, rfl, hv1, hv2, hv3⟩ := SlR.of_own hown
    obtain ⟨g1, g2, g3⟩ := HW2.out wo hb
    by_cases hlt : k < n
    · have hki : (k : Int) < (n : Int) := by omega
      have hkl : k < l0.length := by have := HL.out.2; omega
      obtain ⟨b0, o0, rfl, hb0⟩ := g1.some_of (by omega)
      obtain ⟨-, v0, v1, v2, v3, v4, v5, v6⟩ := g1.cellsR (Below.refl _ _) hkl
      have hfm := HF.out _ (List.getElem_mem hkl)
      have HCr : Hid (∀ W, Below wo.heap.size wo W → _) := hide (fun W hW => ((HW2.out W (bthen hb hW)).1.cellsR (Below.refl _ _) hkl).2)
      generalize l0[k]'hkl = r at *
      obtain ⟨t, ht⟩ : ∃ t, encR r = t := ⟨_, rfl⟩
      have hsz2 := encR_size hfm
      have hdm := dec_enc hfm
      rw [ht] at hsz2 hdm
      have hEnc : Hid (∀ W, RL W → Calls Tryz.prog 31 #[rcV r] W (fun e w' => Below W.heap.size W w' ∧ e = .returned (.tuple #[.string t, .int .i64 0]))) := hide (fun W hW => by
        refine (c_pEncode r W hW).mono fun e w' h => ?_
        have h2 := h.2
        unfold encM at h2
        rw [if_pos hfm, ht] at h2
        exact ⟨h.1, h2⟩)
      have hDec : Hid (∀ W, RL W → Calls Tryz.prog 35 #[.string t] W (fun e w' => Below W.heap.size W w' ∧ e = .returned (.tuple #[rcV r, .int .i64 0]))) := hide (fun W hW => by
        refine (c_pDecode t W hW (by omega)).mono fun e w' h => ?_
        have h2 := h.2
        rw [hdm] at h2
        exact ⟨h.1, h2⟩)
      have hq := fun w => neqRc w r r
      obtain ⟨rp, rn, rt, ro, rw', rk, rx⟩ := r
      simp only [decide_true, Bool.not_true] at hq
      unfold rcV at hq hEnc hDec
      dsimp only at v0 v1 v2 v3 v4 v5 v6 hq hEnc hDec HCr
      have HB := hide (And.intro hown (And.intro hb hsz))
      clear hown hb hv3 g1 g2 g3 hfm ht hdm hsz
      go_upto_region 10 with (go_at_call 31; refine (hEnc.out _ (HW2.out wo HB.out.2.1).2.1).mono ?_; rintro e w4 ⟨hb4, rfl⟩; have HB4 := hide hb4; clear hb4 v0 v1 v2 v3 v4 v5 v6)
      go_upto_region 11 with (go_at_call 35; refine (hDec.out _ (HW2.out w4 (bthen HB.out.2.1 HB4.out)).2.1).mono ?_; rintro e w5 ⟨hb5, rfl⟩; have HB5 := hide (bthen HB4.out hb5); clear hb5)
      have g15 := Blk.new w5 49 [.int .i64 rp, .int .i64 rn, .int .i64 rt, .int .i64 ro, .int .i64 rw', .int .i64 rk, .string rx]
      have hb6 := balloc HB5.out (.cells #[.int .i64 rp, .int .i64 rn, .int .i64 rt, .int .i64 ro, .int .i64 rw', .int .i64 rk, .string rx] 49)
      generalize w5.alloc (.cells #[.int .i64 rp, .int .i64 rn, .int .i64 rt, .int .i64 ro, .int .i64 rw', .int .i64 rk, .string rx] 49) = w6 at *
      have HB6 := hide hb6
      have hl6 := g15.lt
      have hb0' : b0 < w6.heap.size := Nat.lt_of_lt_of_le hb0 hb6.size
      have g15a := fun x : BW w6 => (g15.below x.ok g15.lt).all7.1
      have g0a := fun x : BW w6 => HCr.out x.val (bthen HB6.out x.ok)
      have y0 := fun x : BW w6 => (g15a x).1
      have y1 := fun x : BW w6 => (g15a x).2.1
      have y2 := fun x : BW w6 => (g15a x).2.2.1
      have y3 := fun x : BW w6 => (g15a x).2.2.2.1
      have y4 := fun x : BW w6 => (g15a x).2.2.2.2.1
      have y5 := fun x : BW w6 => (g15a x).2.2.2.2.2.1
      have y6 := fun x : BW w6 => (g15a x).2.2.2.2.2.2
      have z0 := fun x : BW w6 => (g0a x).1
      have z1 := fun x : BW w6 => (g0a x).2.1
      have z2 := fun x : BW w6 => (g0a x).2.2.1
      have z3 := fun x : BW w6 => (g0a x).2.2.2.1
      have z4 := fun x : BW w6 => (g0a x).2.2.2.2.1
      have z5 := fun x : BW w6 => (g0a x).2.2.2.2.2.1
      have z6 := fun x : BW w6 => (g0a x).2.2.2.2.2.2
      clear hb6 hEnc hDec g15a g0a g15
      have htz : ¬ ((t.size : Int) = 0) := by omega
      have htq : ((t.size : Int) == 0) = false := by rw [beq_eq_false_iff_ne]; omega
      have htd : decide ((t.size : Int) = 0) = false := decide_eq_false htz
      go_wp2_with fail
      refine wp_region_bw w6 (Below.refl _ _) (by kernel_rfl) (by kernel_rfl) ?_
      repeat (go_big_quiet_step (fail))
      refine wpQuiet_nil ?_
      intro w7 hb7
      have HB7 := hide (bthen HB6.out hb7)
      clear hb7 y0 y1 y2 y3 y4 y5 y6 z0 z1 z2 z3 z4 z5 z6 hq htz htq htd
      go_upto_region 14 with (fail)
      generalize grownCap w7 t.size 0 5 = cap at *
      have g17 := ByR.new w7 t cap
      have hb8 : Below w7.heap.size w7 (w7.alloc (.cells (bytesRow t cap) 5 ((bytesRow t cap).size, (bytesRow t cap).size + 1))).drew := bdrew (balloc (Below.refl _ _) _)
      generalize (w7.alloc (.cells (bytesRow t cap) 5 ((bytesRow t cap).size, (bytesRow t cap).size + 1))).drew = w8 at *
      obtain ⟨p, hp⟩ : ∃ p, pkN at_ t.size = p := ⟨_, rfl⟩
      have hpt : p < t.size := by rw [← hp]; exact pkN_lt at_ t.size hsz2.1
      have hpk : ∀ W : World, Calls Tryz.prog 21 #[.int .i64 at_, .int .i64 t.size] W fun e w' => e = .returned (.int .i64 (p : Nat)) ∧ W = w' := fun W => by
        have := c_lpick at_ t.size W ha1 ha2 (by omega) (by omega)
        rw [pk_N at_ t.size hsz2.1, hp] at this
        exact this
      have hpN : p < (bN t).length := by rw [bN_len]; exact hpt
      obtain ⟨f1, f2⟩ := g17.2 p hpN
      have hl17 := g17.1
      have H17 := hide g17
      have HB8 := hide hb8
      have hpi : (p : Int) < (t.size : Int) := by omega
      have hptl : p ≤ t.size := by omega
      have ht63 : ¬ 9223372036854775807 < t.size + 1 := by omega
      have hpi0 : (0 : Int) ≤ (p : Int) := by omega
      clear hp g17 hb8
      go_upto_region 15 with (go_at_call 21; refine (hpk _).mono ?_; rintro e w' ⟨rfl, rfl⟩)
      have g9 := H17.out.set hpN bz
      have hb9 : Below w7.heap.size w7 (w8.setCell ⟨w7.heap.size, p, none⟩ (.int .u8 (bz : Int))) := bset (p := ⟨w7.heap.size, p, none⟩) HB8.out (Nat.le_refl _) _
      generalize w8.setCell ⟨w7.heap.size, p, none⟩ (.int .u8 (bz : Int)) = w9 at *
      have hbl : ((bN t).set p bz).length = t.size := by rw [List.length_set, bN_len]
      have HB9 := hide (bthen HB7.out hb9)
      obtain ⟨bs, hbs⟩ : ∃ bs, nB ((bN t).set p bz) = bs := ⟨_, rfl⟩
      have hbss : bs.size = t.size := by
        rw [← bN_len, ← hbs, bN_nB, hbl]
        intro x hx
        rcases List.mem_or_eq_of_mem_set hx with h | h
        · exact bN_lt t x h
        · omega
      have hg79 : w7.heap.size < w9.heap.size := g9.1
      have HSg : Hid (∀ W : World, W.heap[w7.heap.size]? = w9.heap[w7.heap.size]? → (convert 63 9 (.slice (some ⟨w7.heap.size, 0, none⟩) t.size cap)).run Tryz.prog W = .ok (.string bs) W) := hide (fun W hW => by
        have h1 := (g9.same hW).slr
        rw [hbl] at h1
        have := conv_bytes h1 hsz2.1 (fun x hx => by
          rcases List.mem_or_eq_of_mem_set hx with h | h
          · exact bN_lt t x h
          · omega) cap
        rw [hbs] at this
        exact this)
      have HS : Hid (∀ W, Below w9.heap.size w9 W → (convert 63 9 (.slice (some ⟨w7.heap.size, 0, none⟩) t.size cap)).run Tryz.prog W = .ok (.string bs) W) := hide (fun W hW => HSg.out W (hW.block _ hg79))
      have hwo7 : wo.heap.size ≤ w7.heap.size := HB7.out.size
      have hownlt := own_lt HB.out.1
      have hown9 := own_to HB.out.1 HB9.out
      have HO9 := hide (And.intro hown9 (bthen HB.out.2.1 HB9.out))
      have h29 : w2.heap.size ≤ w9.heap.size := (bthen HB.out.2.1 HB9.out).size
      clear f1 f2 hpN hl17 H17 g9 hb9 hbs hown9
      go_wp2_with fail
      refine wp_region_held_drew (S := fun W => (convert 63 9 (.slice (some ⟨w7.heap.size, 0, none⟩) t.size cap)).run Tryz.prog W = .ok (.string bs) W) (by kernel_rfl) (HS.out _ (bdrew (Below.refl _ _))) (fun hHeld => ?_)
      refine wpAnyH_take (i := 0) (v := ?_) rfl (by kernel_rfl) (by kernel_rfl) (by kernel_rfl) (fun _ _ _ h => h) (Or.inl ⟨by rfl, ?hy1⟩) (by assumption) ?rs1
      case hy1 => (intro w hSw; (try dsimp only at hSw); go_simp; try (with_reducible rfl))
      (try simp only [Act.put, List.setIfInBounds_toArray, List.set_cons_zero, List.set_cons_succ, List.getElem_toArray, List.getElem_cons_zero, List.getElem_cons_succ])
      refine wpAnyH_take (i := 1) (v := ?_) rfl (by kernel_rfl) (by kernel_rfl) (by kernel_rfl) (fun _ _ _ h => h) (Or.inl ⟨by rfl, ?hy2⟩) (by assumption) ?rs2
      case hy2 => (intro w hSw; (try dsimp only at hSw); go_simp; try (with_reducible rfl))
      (try simp only [Act.put, List.setIfInBounds_toArray, List.set_cons_zero, List.set_cons_succ, List.getElem_toArray, List.getElem_cons_zero, List.getElem_cons_succ])
      refine wpAnyH_take (i := 2) (v := ?_) rfl (by kernel_rfl) (by kernel_rfl) (by kernel_rfl) (fun _ _ _ h => h) (Or.inl ⟨by rfl, ?hy3⟩) (by assumption) ?rs3
      case hy3 => (intro w hSw; (try dsimp only at hSw); go_simp; try (with_reducible rfl))
      (try simp only [Act.put, List.setIfInBounds_toArray, List.set_cons_zero, List.set_cons_succ, List.getElem_toArray, List.getElem_cons_zero, List.getElem_cons_succ])
      refine wpAnyH_take (i := 3) (v := ?_) rfl (by kernel_rfl) (by kernel_rfl) (by kernel_rfl) (fun _ _ _ h => h) (Or.inl ⟨by rfl, ?hy4⟩) (by assumption) ?rs4
      case hy4 => (intro w hSw; (try dsimp only at hSw); go_simp; try (with_reducible rfl))
      (try simp only [Act.put, List.setIfInBounds_toArray, List.set_cons_zero, List.set_cons_succ, List.getElem_toArray, List.getElem_cons_zero, List.getElem_cons_succ])
      refine wpAnyH_take (i := 4) (v := ?_) rfl (by kernel_rfl) (by kernel_rfl) (by kernel_rfl) (fun _ _ _ h => h) (Or.inl ⟨by rfl, ?hy5⟩) (by assumption) ?rs5
      case hy5 => (intro w hSw; (try dsimp only at hSw); go_simp; try (with_reducible rfl))
      (try simp only [Act.put, List.setIfInBounds_toArray, List.set_cons_zero, List.set_cons_succ, List.getElem_toArray, List.getElem_cons_zero, List.getElem_cons_succ])
      refine wpAnyH_take (i := 5) (v := ?_) rfl (by kernel_rfl) (by kernel_rfl) (by kernel_rfl) (fun _ _ _ h => h) (Or.inl ⟨by rfl, ?hy6⟩) (by assumption) ?rs6
      case hy6 => (intro w hSw; (try dsimp only at hSw); go_simp; try (with_reducible rfl))
      (try simp only [Act.put, List.setIfInBounds_toArray, List.set_cons_zero, List.set_cons_succ, List.getElem_toArray, List.getElem_cons_zero, List.getElem_cons_succ])
      refine wpAnyH_take (i := 6) (v := ?_) rfl (by kernel_rfl) (by kernel_rfl) (by kernel_rfl) (fun _ _ _ h => h) (Or.inl ⟨by rfl, ?hy7⟩) (by assumption) ?rs7
      case hy7 => (intro w hSw; (try dsimp only at hSw); go_simp; try (with_reducible rfl))
      (try simp only [Act.put, List.setIfInBounds_toArray, List.set_cons_zero, List.set_cons_succ, List.getElem_toArray, List.getElem_cons_zero, List.getElem_cons_succ])
      refine wpAnyH_call (i := 7) rfl (by kernel_rfl) (by kernel_rfl) (by kernel_rfl) (fun _ _ _ h => h) (by rfl) ?he8 (fun w hSw => (hpk w)) (by assumption) ?rs8
      case he8 => (intro w hSw; (try dsimp only at hSw); go_simp)
      (try simp only [Act.put, List.setIfInBounds_toArray, List.set_cons_zero, List.set_cons_succ, List.getElem_toArray, List.getElem_cons_zero, List.getElem_cons_succ])
      refine wpAnyH_take (i := 8) (v := ?_) rfl (by kernel_rfl) (by kernel_rfl) (by kernel_rfl) (fun _ _ _ h => h) (Or.inl ⟨by rfl, ?hy9⟩) (by assumption) ?rs9
      case hy9 => (intro w hSw; (try dsimp only at hSw); go_simp; try (with_reducible rfl))
      (try simp only [Act.put, List.setIfInBounds_toArray, List.set_cons_zero, List.set_cons_succ, List.getElem_toArray, List.getElem_cons_zero, List.getElem_cons_succ])
      refine wpAnyH_take (i := 9) (v := ?_) rfl (by kernel_rfl) (by kernel_rfl) (by kernel_rfl) (fun _ _ _ h => h) (Or.inl ⟨by rfl, ?hy10⟩) (by assumption) ?rs10
      case hy10 => (intro w hSw; (try dsimp only at hSw); go_simp; try (with_reducible rfl))
      (try simp only [Act.put, List.setIfInBounds_toArray, List.set_cons_zero, List.set_cons_succ, List.getElem_toArray, List.getElem_cons_zero, List.getElem_cons_succ])
      refine wpAnyH_take (i := 10) (v := ?_) rfl (by kernel_rfl) (by kernel_rfl) (by kernel_rfl) (fun _ _ _ h => h) (Or.inl ⟨by rfl, ?hy11⟩) (by assumption) ?rs11
      case hy11 => (intro w hSw; (try dsimp only at hSw); go_simp; try (with_reducible rfl))
      (try simp only [Act.put, List.setIfInBounds_toArray, List.set_cons_zero, List.set_cons_succ, List.getElem_toArray, List.getElem_cons_zero, List.getElem_cons_succ])
      have hownA : (w9.alloc (.cells #[.string bs, .string (t.extract 0 p), .string (t ++ ⟨#[120]⟩)] 9)).drew.ownsRow w2.heap.size 9 1 (.slice Av m cv) m (sV ws) := (HO9.out.1.alloc (.cells #[.string bs, .string (t.extract 0 p), .string (t ++ ⟨#[120]⟩)] 9)).drew
      have hbA : Below w9.heap.size w9 (w9.alloc (.cells #[.string bs, .string (t.extract 0 p), .string (t ++ ⟨#[120]⟩)] 9)).drew := bdrew (balloc (Below.refl w9.heap.size w9) _)
      have gA : Blk (w9.alloc (.cells #[.string bs, .string (t.extract 0 p), .string (t ++ ⟨#[120]⟩)] 9)).drew w9.heap.size 9 [.string bs, .string (t.extract 0 p), .string (t ++ ⟨#[120]⟩)] := (Blk.new w9 9 [.string bs, .string (t.extract 0 p), .string (t ++ ⟨#[120]⟩)]).drew
      refine wpAnyH_ready (rs := [11]) (by kernel_rfl) (by simp) ?_
      refine AllReadyH.cons rfl (fun K hK => ?_) ?_
      · go_simp
        refine hK.out _ _ (by exact (HS.out _ hbA)) (fun hHeld => ?_)
        clear hK K
        (try simp only [Act.put, List.setIfInBounds_toArray, List.set_cons_zero, List.set_cons_succ, List.getElem_toArray, List.getElem_cons_zero, List.getElem_cons_succ])
        generalize (w9.alloc (.cells #[.string bs, .string (t.extract 0 p), .string (t ++ ⟨#[120]⟩)] 9)).drew = wA at *
        have hsA := hbA.size
        refine wpAnyH_ready (rs := [12]) (by kernel_rfl) (by simp) ?_
        refine AllReadyH.cons (o := { dst := some 96, op := Op.call { callee := Callee.builtin Builtin.append, args := #[Operand.tmp 84, Operand.tmp 95], argTypes := #[62, 62] }, type := 62, pos := "law.go:385", after := #[{ on := 0, ground := Ground.data }, { on := 11, ground := Ground.data }, { on := 7, ground := Ground.chain }], guard := none }) rfl (fun K hK => ?_) ?_
        · refine step_append_sl (size := 1) (by rfl) _ _ 62 (by rfl) w2.heap.size 9 j0 (.string ⟨#[]⟩) 16 Tryz.underlying62 hj0 hz0 hz1 hz2 (by rfl) (by decide) _ _ _ (by rfl) hownA 3 3 (sV [bs, t.extract 0 p, t ++ ⟨#[120]⟩]) (by rfl) (gA.slr (k := 1) (n := 3) rfl) (Below.refl _ _) (fun u hu => oneS _ u hu) (by unfold maxLen; omega) (by omega) (by omega) ?_
          intro v8 w8' hown8 hgrow8 hor8
          have hb10 := bgrown (bthen HO9.out.2 hbA) hgrow8 (own_ge hownA)
          have hblk : w8'.heap[w7.heap.size]? = w9.heap[w7.heap.size]? := (hgrow8.block _ (by omega) (fun e => by have := hownlt _ e.symm; omega)).trans (hbA.block _ hg79)
          have hS10 := HSg.out w8' hblk
          obtain ⟨Aw, cw, rfl, hcw1, hcw2, hcw3⟩ := SlR.of_own hown8
          refine hK.out _ _ (by exact hS10) (fun hHeld => ?_)
          clear hK K
          (try simp only [Act.put, List.setIfInBounds_toArray, List.set_cons_zero, List.set_cons_succ, List.getElem_toArray, List.getElem_cons_zero, List.getElem_cons_succ])
          refine wpAnyH_ready (rs := [13]) (by kernel_rfl) (by simp) ?_
          refine AllReadyH.cons rfl (fun K hK => ?_) ?_
          · go_simp
            refine hK.out _ _ (by exact hS10) (fun hHeld => ?_)
            clear hK K
            (try simp only [Act.put, List.setIfInBounds_toArray, List.set_cons_zero, List.set_cons_succ, List.getElem_toArray, List.getElem_cons_zero, List.getElem_cons_succ])
            refine wpAnyH_done (by kernel_rfl) ?_ _
            go_wp2_with fail
            refine ⟨⟨k + 1, ws ++ [bs, t.extract 0 p, t ++ ⟨#[120]⟩], hlt, rfl, ?_, hide ?_, ?_, hb10⟩, ?_⟩
            · rw [List.length_append, HM.out, HWs.out]
              show 1 + 3 * k + 3 = 1 + 3 * (k + 1)
              omega
            · intro x hx
              rcases List.mem_append.1 hx with h | h
              · exact HB.out.2.2.out x h
              · simp only [List.mem_cons, List.not_mem_nil, or_false] at h
                rcases h with rfl | rfl | rfl
                · omega
                · rw [ByteArray.size_extract]; omega
                · rw [ByteArray.size_append]
                  show t.size + 1 ≤ 6000
                  omega
            · rw [List.length_append, HM.out, show sV (ws ++ [bs, t.extract 0 p, t ++ ⟨#[120]⟩]) = sV ws ++ sV [bs, t.extract 0 p, t ++ ⟨#[120]⟩] from List.map_append]
              exact hown8
            · show n - ((k : Int) + 1).toNat < n - ((k : Nat) : Int).toNat
              omega
          · exact AllReadyH.nil
        · exact AllReadyH.nil
      · exact AllReadyH.nil
    · obtain rfl : k = n := by omega
      have HV : Hid (∀ W, Below wo.heap.size wo W → SlR W W.heap.size 1 Av m (sV ws) ∧ RL W ∧ Below w.heap.size w W) := hide (fun W h => ⟨hv3.to' h, (HW2.out W (bthen hb h)).2.1, (HW2.out W (bthen hb h)).2.2⟩)
      clear hown hb hv3 g1 g2 g3 hcv2
      have hm0 : 0 < m := by have := HWs.out; omega
      obtain ⟨b1, o1, rfl, hb1, -⟩ := (HV.out wo (Below.refl _ _)).1.2 hm0
      go_wp2_with fail
      go_loopw [18] (fun i W => ∃ q : Nat, q ≤ m ∧ i = .int .i64 q ∧ Below wo.heap.size wo W) (fun i _ => m - (intOf i).toNat)
      case atStart => exact ⟨0, Nat.zero_le _, rfl, Below.refl _ _⟩
      case round =>
        obtain ⟨q, hq, rfl, hbY⟩ := hrel
        obtain ⟨wy, rfl⟩ : ∃ wy, wy = wr := ⟨_, rfl⟩
        by_cases hql : q < m
        · have hqi : (q : Int) < (m : Int) := by omega
          have hqw : q < ws.length := by have := HM.out; omega
          have HCq : Hid (∀ W, Below wo.heap.size wo W → W.cell? ⟨b1, o1 + q, none⟩ = some (.string (ws[q]'hqw))) := hide (fun W h => by
            obtain ⟨b, off, e, hbb, hc⟩ := (HV.out W h).1.2 hm0
            obtain ⟨rfl, rfl⟩ : b1 = b ∧ o1 = off := by
              simp only [Option.some.injEq, Addr.mk.injEq] at e
              exact ⟨e.1, e.2.1⟩
            exact hc q _ (by unfold sV; rw [List.getElem?_map, List.getElem?_eq_getElem hqw]; rfl))
          have hsq := hsz.out _ (List.getElem_mem hqw)
          have hb1y := Nat.lt_of_lt_of_le hb1 hbY.size
          generalize ws[q]'hqw = x at *
          have hcq := HCq.out wy hbY
          have hDp := c_pDecode x wy (HV.out wy hbY).2.1 (by omega)
          have HY := hide hbY
          clear hbY
          cases hd : decM x with
          | some r =>
            obtain ⟨hfm, hen⟩ := enc_dec hd
            have hDec : Calls Tryz.prog 35 #[.string x] wy (fun e w' => Below wy.heap.size wy w' ∧ e = .returned (.tuple #[rcV r, .int .i64 0])) := by
              refine hDp.mono fun e w' h => ?_
              have h2 := h.2
              rw [hd] at h2
              exact ⟨h.1, h2⟩
            have hEnc : Hid (∀ W, RL W → Calls Tryz.prog 31 #[rcV r] W (fun e w' => Below W.heap.size W w' ∧ e = .returned (.tuple #[.string x, .int .i64 0]))) := hide (fun W hW => by
              refine (c_pEncode r W hW).mono fun e w' h => ?_
              have h2 := h.2
              unfold encM at h2
              rw [if_pos hfm, hen] at h2
              exact ⟨h.1, h2⟩)
            clear hfm hen hd hDp
            obtain ⟨rp, rn, rt, ro, rw', rk, rx⟩ := r
            unfold rcV at hDec hEnc
            dsimp only at hDec hEnc
            go_upto_region 20 with (go_at_call 35; refine hDec.mono ?_; clear hDec; rintro e w5 ⟨hb5, rfl⟩; have HB5 := hide (bthen HY.out hb5); clear hb5 hcq)
            have g19 := Blk.new w5 49 [.int .i64 rp, .int .i64 rn, .int .i64 rt, .int .i64 ro, .int .i64 rw', .int .i64 rk, .string rx]
            have hb6 := balloc HB5.out (.cells #[.int .i64 rp, .int .i64 rn, .int .i64 rt, .int .i64 ro, .int .i64 rw', .int .i64 rk, .string rx] 49)
            generalize w5.alloc (.cells #[.int .i64 rp, .int .i64 rn, .int .i64 rt, .int .i64 ro, .int .i64 rw', .int .i64 rk, .string rx] 49) = w6 at *
            have HB6 := hide hb6
            obtain ⟨⟨y0, y1, y2, y3, y4, y5, y6⟩, -⟩ := g19.all7
            have hl6 := g19.lt
            clear g19 hb6
            go_upto_region 21 with (go_at_call 31; refine (hEnc.out _ (HV.out w6 HB6.out).2.1).mono ?_; clear hEnc; rintro e w7 ⟨hb7, rfl⟩; have HB7 := hide (bthen HB6.out hb7); clear hb7 y0 y1 y2 y3 y4 y5 y6; have hcq := HCq.out w7 HB7.out; have hb1' := Nat.lt_of_lt_of_le hb1 HB7.out.size)
            clear hl6
            go_wp2_with fail
            have hw1 : wrap64 ((q : Int) + 1) = ((q + 1 : Nat) : Int) := (Go.IntWalk.wrap64_in _ (by omega)).trans rfl
            try rw [hw1]
            clear hw1
            refine ⟨⟨q + 1, hql, rfl, HB7.out⟩, ?_⟩
            show m - ((q : Int) + 1).toNat < m - ((q : Nat) : Int).toNat
            omega
          | none =>
            obtain ⟨r, hrz⟩ : ∃ r, r = zRc := ⟨_, rfl⟩
            have hDec : Calls Tryz.prog 35 #[.string x] wy (fun e w' => Below wy.heap.size wy w' ∧ e = .returned (.tuple #[rcV r, .int .i64 350])) := by
              refine hDp.mono fun e w' h => ?_
              have h2 := h.2
              rw [hd] at h2
              rw [hrz]
              exact ⟨h.1, h2⟩
            have hEnc : Hid (∀ W, RL W → Calls Tryz.prog 31 #[rcV r] W (fun e w' => Below W.heap.size W w' ∧ e = .returned (.tuple #[.string ⟨#[]⟩, .int .i64 350]))) := hide (fun W hW => by
              refine (c_pEncode r W hW).mono fun e w' h => ?_
              have h2 := h.2
              unfold encM at h2
              rw [if_neg (by rw [hrz]; decide)] at h2
              exact ⟨h.1, h2⟩)
            clear hrz hd hDp
            obtain ⟨rp, rn, rt, ro, rw', rk, rx⟩ := r
            unfold rcV at hDec hEnc
            dsimp only at hDec hEnc
            go_upto_region 20 with (go_at_call 35; refine hDec.mono ?_; clear hDec; rintro e w5 ⟨hb5, rfl⟩; have HB5 := hide (bthen HY.out hb5); clear hb5 hcq)
            have g19 := Blk.new w5 49 [.int .i64 rp, .int .i64 rn, .int .i64 rt, .int .i64 ro, .int .i64 rw', .int .i64 rk, .string rx]
            have hb6 := balloc HB5.out (.cells #[.int .i64 rp, .int .i64 rn, .int .i64 rt, .int .i64 ro, .int .i64 rw', .int .i64 rk, .string rx] 49)
            generalize w5.alloc (.cells #[.int .i64 rp, .int .i64 rn, .int .i64 rt, .int .i64 ro, .int .i64 rw', .int .i64 rk, .string rx] 49) = w6 at *
            have HB6 := hide hb6
            obtain ⟨⟨y0, y1, y2, y3, y4, y5, y6⟩, -⟩ := g19.all7
            have hl6 := g19.lt
            clear g19 hb6
            go_upto_region 21 with (go_at_call 31; refine (hEnc.out _ (HV.out w6 HB6.out).2.1).mono ?_; clear hEnc; rintro e w7 ⟨hb7, rfl⟩; have HB7 := hide (bthen HB6.out hb7); clear hb7 y0 y1 y2 y3 y4 y5 y6; have hcq := HCq.out w7 HB7.out; have hb1' := Nat.lt_of_lt_of_le hb1 HB7.out.size)
            clear hl6
            go_wp2_with fail
            have hw1 : wrap64 ((q : Int) + 1) = ((q + 1 : Nat) : Int) := (Go.IntWalk.wrap64_in _ (by omega)).trans rfl
            try rw [hw1]
            clear hw1
            refine ⟨⟨q + 1, hql, rfl, HB7.out⟩, ?_⟩
            show m - ((q : Int) + 1).toNat < m - ((q : Nat) : Int).toNat
            omega
        · obtain rfl : q = m := by omega
          have HE := hide (HV.out wy hbY).2.2
          clear hbY
          go_wp2_with fail
          go_ret
          exact ⟨rfl, HE.out⟩
end Go.Proofs.YtcfbgelhggapjaaGreatDoor
/- ReplicaCode returns true for every input, and each argument reads afterwards as it read before. No condition but the row's own: the variable holds what the program's text lays. -/
namespace Go.Proofs.YtcfbgelhggapjaaGreatDoor
open Go.ChangeShapes Go.WideShapes Go.ChangeAt Go.RowKit
theorem code_reads (os : Os) {H : Type} (enc : TypeId × Value → H) : ∃ places, DataW.whole enc Tryz.prog ((laidWorld os).forCall (fun _ _ => 0) ⟨#[], #[.slice none 0 0, .string ⟨#[]⟩, .int .i64 0, .int .u8 0], []⟩).memory Tryz.f9.params.toList Rows.replicaCodeSpec.vars false ((#[.slice none 0 0, .string ⟨#[]⟩, .int .i64 0, .int .u8 0] : Array Value)).toList 8 = some ([.nil, .lit (.string []), .lit (.int .i64 0), .lit (.int .u8 0)], [], places) :=
  ⟨[], by kernel_rfl⟩
set_option maxHeartbeats 1600000 in
set_option maxRecDepth 100000 in
theorem code_contract (H : Type) (enc : TypeId × Value → H) (W : World) (base : Nat) (args : Array Value) (ds gs : List (DataW H)) (before : List MemPlace)
    (hval0 : ∀ (j : Nat) t v, Tryz.f9.params[j]? = some t → args[j]? = some v → Value.okWide Tryz.prog W .any base t v)
    (hW : DataW.Whole enc Tryz.prog Tryz.f9.params.toList Rows.replicaCodeSpec.vars false W args.toList ds gs before) (hL : laidMetH Tryz.prog Rows.replicaCodeRow.laid W) :
    Calls Tryz.prog 9 args W fun e W' => ∃ v, e = .returned v ∧ Rows.replicaCodeSpec.post enc Tryz.prog Tryz.f9 false true false false W args v W' := by
  have hR : RL W := rl_of hL
  have hval : ∀ (j : Nat) t v, Tryz.f9.params[j]? = some t → args[j]? = some v → Value.okWide Tryz.prog W .any base t v := hval0
  have hW' := hW
  obtain ⟨p, q, hA0, hV, rfl, hfz, hnd⟩ := hW
  have hA : DataW.TrodAll enc Tryz.prog W 0 (fun _ => true) true Tryz.f9.params.toList args.toList ds p := hA0
  have hA1 := hA
  rw [Tryz.params9] at hA hval
  obtain ⟨v0, v1, v2, v3, d0, d1, d2, d3, p0, p1, p2, p3, rfl, rfl, rfl, h0, h1, h2, h3⟩ := trodAll_four hA
  obtain ⟨rfl, rfl⟩ := trodVars_none hV
  obtain ⟨A0, x0, c0, rfl, hn0, hc0, hw0, hr0⟩ := open_sl4 (hval 0 22 v0 rfl rfl) h0
  obtain ⟨s1, rfl, rfl, rfl, w1⟩ := Go.ChangeMaps.open_string Tryz.underlying9 (hval 1 9 v1 rfl rfl) h1
  obtain ⟨n2, rfl, rfl, rfl, w2⟩ := open_int Tryz.underlying3 (hval 2 3 v2 rfl rfl) h2
  have w2 := wf_of w2
  obtain ⟨n3, rfl, rfl, rfl, w3⟩ := open_int Tryz.underlying5 (hval 3 5 v3 rfl rfl) h3
  have w3 := wf_u8 w3
  obtain ⟨b3, rfl⟩ : ∃ b : Nat, n3 = (b : Int) := ⟨n3.toNat, by omega⟩
  refine (c_Code A0 x0.length c0 x0 s1 n2 b3 W hR (by omega) hw0 rfl hr0 w2.1 w2.2 (by omega)).mono fun e W' ⟨he, hB⟩ => ?_
  subst he
  refine ⟨_, rfl, _, _, _, [], _, [], hW', ?_, below_all hB ?_ hA1, rfl, hB.frame _, fun h => by cases h⟩
  · exact trodAll_mk1 (shut_bool Tryz.underlying4 true)
  · rw [Tryz.params9]
    intro t ht
    simp only [List.mem_cons, List.not_mem_nil, or_false] at ht
    rcases ht with rfl | rfl | rfl | rfl <;> exact ⟨by kernel_rfl, of_decide_eq_true (by kernel_rfl)⟩
set_option maxRecDepth 100000 in
theorem code_lifted (os : Os) (started : os.Started) (H : Type) (enc : TypeId × Value → H) (F : Stop.Interp) :
    ReturnsInHanded {} Tryz.checked os 9 .any ((OpenSpec.ofChange Rows.replicaCodeSpec).preRow enc Tryz.prog Tryz.f9 Rows.replicaCodeRow.domain false Rows.replicaCodeRow.laid) (((OpenSpec.ofChange Rows.replicaCodeSpec).at F).post enc Tryz.prog Tryz.f9 false true false false) := by
  obtain ⟨places, hx⟩ := code_reads os enc
  refine returnsInHanded_of_row (C := Tryz.checked) (s := OpenSpec.ofChange Rows.replicaCodeSpec) Tryz.own started (by kernel_rfl) Tryz.func9
    (witness_row_at (enc := enc) (C := Tryz.checked) false (laidWorld os) #[.slice none 0 0, .string ⟨#[]⟩, .int .i64 0, .int .u8 0] rfl (by kernel_rfl) (by kernel_rfl) (by kernel_rfl)
      (OpenSpec.preRow_of_cond 8 hx (by kernel_rfl) (fun k hk => by cases hk) (by kernel_rfl) (laid_met os _))) ?_
  intro W base args ds gs before hval hW _ _ _ hL _ _
  exact code_contract H enc W base args ds gs before hval hW hL
/-- ReplicaCode: whatever the input, true; the input reads as it did. -/
theorem code_said : Rows.ReplicaCodeSaid :=
  OpenClaim.holds_of_cond 9 Tryz.f9 rfl rfl rfl rfl rfl rfl rfl ⟨rfl, rfl, rfl, rfl, rfl⟩ rfl rfl rfl rfl rfl (by kernel_rfl) Tryz.func9 (by kernel_rfl)
    (of_decide_eq_true (by kernel_rfl)) (by unfold Func.isWrapper; first | (rw [if_pos (by decide +kernel)]; kernel_rfl) | (rw [if_neg (by decide +kernel)]; exact ⟨rfl, rfl⟩))
    (fun os started H enc _ F => by rw [OpenClaim.pre_eq_preRow]; exact code_lifted os started H enc F)
/-- no parameter wants a stand-in; the program's own looks are off -/
theorem code_plain (f : FuncId) (fn : Func) (hf : Tryz.pinned.checked.prog.funcNamed "slatewall/slatewalllaw35.ReplicaCode" = some f) (hfn : Tryz.pinned.checked.prog.funcs[f]? = some fn) :
    false = Tryz.pinned.checked.prog.looks [] ∧ ∀ (j : Nat) t, fn.params[j]? = some t → Tryz.pinned.checked.prog.wantsStandIn t = false := by
  obtain rfl : f = 9 := Option.some.inj ((show Tryz.prog.funcNamed "slatewall/slatewalllaw35.ReplicaCode" = some 9 by kernel_rfl).symm.trans hf) |>.symm
  obtain rfl : fn = Tryz.f9 := (Option.some.inj (Tryz.func9.symm.trans hfn)).symm
  refine ⟨by kernel_rfl, fun j t ht => ?_⟩
  rw [Tryz.params9] at ht
  have hm : t ∈ [22, 9, 3, 5] := by simpa using Array.mem_of_getElem? ht
  have hall : ([22, 9, 3, 5].all fun u => !Tryz.prog.wantsStandIn u) = true := by kernel_rfl
  exact (show Tryz.prog.wantsStandIn t = false by simpa using List.all_eq_true.1 hall t hm)
/-- THE CARD of ReplicaCode. -/
theorem code_holds : Rows.ReplicaCodeCardSaid :=
  Claim7.holds_tied_plain_at .later [] _ _ _ _ code_said (fun _ h => by cases h) (by kernel_rfl) (fun _ h => by cases h) replicaCode_row_tie rfl ⟨rfl, rfl⟩ (by kernel_rfl) rfl code_plain (by kernel_rfl)
end Go.Proofs.YtcfbgelhggapjaaGreatDoor
#print axioms Go.Proofs.YtcfbgelhggapjaaGreatDoor.code_holds
