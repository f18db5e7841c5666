/- Replica: the stable sort at records: the symmetric merge. -/
import Derived.Test.YtcfbgelhggapjaaGreatDoorQ6
import Derived.BigRegion
import Derived.Deep.DeepCutAuto
namespace Go.Proofs.YtcfbgelhggapjaaGreatDoor
open Go.RowKit Go.Shelf Go.Sort Go.Lib
theorem sorted_out {α : Type} [Inhabited α] {lt : α → α → Bool} {a m x y : Nat} {d d' : Array α} (h : PermIn a m d d') (hs : SortedIn lt x y d) (hx : m ≤ x) : SortedIn lt x y d' := by
  intro i j hi hij hj
  rw [h.2.1 i (by omega), h.2.1 j (by omega)]
  exact hs i j hi hij hj
set_option maxHeartbeats 16000000 in
set_option maxRecDepth 1000000 in
theorem g_symMerge {P : Program} {K : Nat} (L : StP P K) (blk off cap N : Nat) (g : Nat) (cb : Array Value) (cf : Rc → Rc → Int) (d0 : Array Rc) (w0 : World) (eg : ∀ args w, (callFunc g args).run P w = .ok (.enter g args) w) (hcmp : CmpLays P g cb cR K cf blk off d0.size w0) (hO : SWO (ltOf cf))
    (hR : RowK cR K w0 blk off d0) (hN : d0.size = N) (hsz : N < 2305843009213693952) :
    ∀ (f a m b : Nat) (d : Array Rc) (w : World), b - a ≤ f → d.size = N → SWK cR K w0 blk off d w → a < m → m < b → b ≤ N → SortedIn (ltOf cf) a m d → SortedIn (ltOf cf) m b d →
    Calls P 121 #[.slice (some ⟨blk, off, none⟩) N cap, .int .i64 a, .int .i64 m, .int .i64 b, .func (.func g) #[] cb] w fun e w' => e = .returned (.tuple #[]) ∧ ∃ d', PermIn a b d d' ∧ SortedIn (ltOf cf) a b d' ∧ SWK cR K w0 blk off d' w' := by
  intro f
  induction f with
  | zero => intro a m b d w hf hs hS ham hmb hb hA hB; omega
  | succ f ihf =>
    intro a m b d w hf hs hS ham hmb hb hA hB
    by_cases h1 : m = a + 1
    · exact g_symOne L blk off cap N a m b g cb cf d0 d w0 w eg hcmp hO hR hN hs hS ham hmb hb hsz hA hB h1
    by_cases h2 : b = m + 1
    · exact g_symLast L blk off cap N a m b g cb cf d0 d w0 w eg hcmp hO hR hN hs hS hmb hb hsz hA hB (by omega) h2
    have IH : Aside (∀ (a m b : Nat) (d : Array Rc) (w : World), b - a ≤ f → d.size = N → SWK cR K w0 blk off d w → a < m → m < b → b ≤ N → SortedIn (ltOf cf) a m d → SortedIn (ltOf cf) m b d → Calls P 121 #[.slice (some ⟨blk, off, none⟩) N cap, .int .i64 a, .int .i64 m, .int .i64 b, .func (.func g) #[] cb] w fun e w' => e = .returned (.tuple #[]) ∧ ∃ d', PermIn a b d d' ∧ SortedIn (ltOf cf) a b d' ∧ SWK cR K w0 blk off d' w') := ihf
    clear ihf
    have R : Aside (RowK cR K w0 blk off d0) := hR
    have S0 : Aside (SWK cR K w0 blk off d w) := hS
    have HC : Aside (CmpLays P g cb cR K cf blk off d0.size w0) := hcmp
    have HO : Hid (SWO (ltOf cf) ∧ SortedIn (ltOf cf) a m d ∧ SortedIn (ltOf cf) m b d) := ⟨hO, hA, hB⟩
    clear hR hS hcmp hO hA hB
    have hq0 : ((m : Int) - (a : Int) == 1) = false := by simp; omega
    have hq : ((b : Int) - (m : Int) == 1) = false := by simp; omega
    -- mid, and where the search begins and ends
    obtain ⟨mid, hmid⟩ : ∃ mid, mid = (a + b) / 2 := ⟨_, rfl⟩
    have emid : ((a : Int) + (b : Int)) / 2 = (mid : Int) := by omega
    obtain ⟨s0, hs0⟩ : ∃ s0, s0 = if mid < m then mid + m - b else a := ⟨_, rfl⟩
    obtain ⟨r0, hr0⟩ : ∃ r0, r0 = if mid < m then mid else m := ⟨_, rfl⟩
    have q1 : a ≤ s0 := by rw [hs0]; split <;> omega
    have q2 : s0 ≤ r0 := by rw [hs0, hr0]; split <;> omega
    have q3 : r0 ≤ m := by rw [hr0]; split <;> omega
    have q4 : mid + m ≤ b + s0 := by rw [hs0]; split <;> omega
    have q5 : r0 ≤ mid := by rw [hr0]; split <;> omega
    have QE : Hid ((s0 = a ∨ mid + m - s0 = b) ∧ (r0 = m ∨ mid + m - r0 = m)) := by
      constructor
      · rw [hs0]; split
        · right; omega
        · left; rfl
      · rw [hr0]; split
        · right; omega
        · left; rfl
    have HC0 : Hid ((mid < m → (mid : Int) + (m : Int) - (b : Int) = (s0 : Int) ∧ (mid : Int) = (r0 : Int)) ∧ (¬ mid < m → (a : Int) = (s0 : Int) ∧ (m : Int) = (r0 : Int))) := by
      constructor
      · intro h; rw [if_pos h] at hs0 hr0; omega
      · intro h; rw [if_neg h] at hs0 hr0; omega
    clear hs0 hr0 h1 h2
    have mixed := L.mixed; have t0 := L.t0; have a0 := L.a0; have z0 := L.z0; have v0 := L.v0; have t3 := L.t3; have a3 := L.a3; have z3 := L.z3; have v3 := L.v3; have t4 := L.t4; have a4 := L.a4; have z4 := L.z4; have v4 := L.v4; have tR := L.tR; have aR := L.aR; have zR := L.zR; have vR := L.vR; have tC := L.tC; have aC := L.aC; have zC := L.zC; have vC := L.vC; have tU := L.tU; have aU := L.aU; have zU := L.zU; have vU := L.vU; have aE := L.aE; have zE := L.zE; have eSw := L.eSw; have eRo := L.eRo; have eSy := L.eSy
    go_enter L.gSy, Tryz.ntmps121
    have m1 : a < mid := by omega
    have m2 : mid < b := by omega
    have EM := hide emid
    clear emid hmid
    go_upto_if 140 with (fail)
    simp only [EM.out]
    go_cut [20, 21] from 140 to 146 (fun u v wx => u = .int .i64 (s0 : Int) ∧ v = .int .i64 (r0 : Int) ∧ Aside (SWK cR K w0 blk off d wx))
    case first =>
      by_cases hmm : mid < m
      · have hz : (mid : Int) < (m : Int) := by omega
        have HE := hide (HC0.out.1 hmm)
        go_wp2_with fail
        go_meet
        exact ⟨by rw [← HE.out.1], by rw [← HE.out.2], S0⟩
      · have hz : ¬ (mid : Int) < (m : Int) := by omega
        have HE := hide (HC0.out.2 hmm)
        go_wp2_with fail
        go_meet
        exact ⟨by rw [← HE.out.1], by rw [← HE.out.2], S0⟩
    case rest =>
      obtain ⟨rfl, rfl, S1⟩ := hcut
      clear S0 HC0
      go_wp2
      go_loopg [20, 21, 23] (r0 - s0) (fun kx s20 s21 _ wr => ∃ (s r : Nat), s20 = .int .i64 s ∧ s21 = .int .i64 r ∧ s0 ≤ s ∧ s ≤ r ∧ r ≤ r0 ∧ r - s ≤ kx ∧ Aside (SWK cR K w0 blk off d wr) ∧ Hid ((s = s0 ∨ ltOf cf d[mid + m - s]! d[s - 1]! = false) ∧ (r = r0 ∨ ltOf cf d[mid + m - 1 - r]! d[r]! = true)))
      case atStart => exact ⟨s0, r0, rfl, rfl, Nat.le_refl _, q2, Nat.le_refl _, Nat.le_refl _, S1, ⟨.inl rfl, .inl rfl⟩⟩
      case round =>
        clear S1
        obtain ⟨s, r, rfl, rfl, hai, hij, hjb, hkx, S1, HE⟩ := hrel
        by_cases hlt : s < r
        · have hltz : (s : Int) < (r : Int) := by omega
          have eh : ((s : Int) + (r : Int)) / 2 = (((s + r) / 2 : Nat) : Int) := by omega
          have eh1 : ((s : Int) + (r : Int)) / 2 + 1 = (((s + r) / 2 + 1 : Nat) : Int) := by omega
          have EH := hide (And.intro eh eh1)
          clear eh eh1
          have hb1 : s ≤ (s + r) / 2 := by omega
          have hb2 : (s + r) / 2 < r := by omega
          have pq1 : ((s : Int) + (r : Int)) / 2 ≤ (mid : Int) + (m : Int) - 1 := by omega
          have pq2 : ((s : Int) + (r : Int)) / 2 < (mid : Int) + (m : Int) := by omega
          cases hL : ltOf cf d[mid + m - 1 - (s + r) / 2]! d[(s + r) / 2]! with
          | true =>
            have ea35 : ((mid : Int) + (m : Int) - 1 - ((s : Int) + (r : Int)) / 2).toNat = mid + m - 1 - (s + r) / 2 := by omega
            have pa35 : (0 : Int) ≤ (mid : Int) + (m : Int) - 1 - ((s : Int) + (r : Int)) / 2 := by omega
            have ba35 : (mid : Int) + (m : Int) - 1 - ((s : Int) + (r : Int)) / 2 < (N : Int) := by omega
            have ra35 : IntKind.i64.wrap ((mid : Int) + (m : Int) - 1 - ((s : Int) + (r : Int)) / 2) = (mid : Int) + (m : Int) - 1 - ((s : Int) + (r : Int)) / 2 := by rw [IntKind.wrap_i64]; omega
            have ec35 : (((s : Int) + (r : Int)) / 2).toNat = (s + r) / 2 := by omega
            have pc35 : (0 : Int) ≤ ((s : Int) + (r : Int)) / 2 := by omega
            have bc35 : ((s : Int) + (r : Int)) / 2 < (N : Int) := by omega
            have rc35 : IntKind.i64.wrap (((s : Int) + (r : Int)) / 2) = ((s : Int) + (r : Int)) / 2 := by rw [IntKind.wrap_i64]; omega
            obtain ⟨x35, hx35⟩ : ∃ x, x = d[mid + m - 1 - (s + r) / 2]! := ⟨_, rfl⟩
            obtain ⟨y35, hy35⟩ : ∃ x, x = d[(s + r) / 2]! := ⟨_, rfl⟩
            have l35a := S1.out.ld R.out (by omega) P (mid + m - 1 - (s + r) / 2) (by omega)
            have l35b := S1.out.ld R.out (by omega) P ((s + r) / 2) (by omega)
            rw [← hx35] at l35a
            rw [← hy35] at l35b
            have hc35 := S1.out.cmp HC.out (by omega) x35 y35
            have hv35 : cf x35 y35 < 0 := by rw [hx35, hy35]; exact of_decide_eq_true hL
            have hd35 : decide (cf x35 y35 < 0) = true := decide_eq_true hv35
            clear hx35 hy35
            go_wp2_with fail
            go_quiet_grown (first | (go_at_fn g; refine Calls.grown_of (hc35 _ _)))
            have S2 : Aside (SWK cR K w0 blk off d (grow (wr.drewN nq) osq)) := S1.out.grown nq osq
            clear l35a l35b hc35 S1
            generalize grow (wr.drewN nq) osq = w2 at S2 ⊢
            clear nq osq
            go_wp2
            go_roundg ((s + r) / 2 - s)
            case measure => omega
            case rel => exact ⟨s, (s + r) / 2, rfl, by rw [EH.out.1], hai, by omega, by omega, Nat.le_refl _, S2, ⟨HE.out.1, .inr hL⟩⟩
          | false =>
            have ea35 : ((mid : Int) + (m : Int) - 1 - ((s : Int) + (r : Int)) / 2).toNat = mid + m - 1 - (s + r) / 2 := by omega
            have pa35 : (0 : Int) ≤ (mid : Int) + (m : Int) - 1 - ((s : Int) + (r : Int)) / 2 := by omega
            have ba35 : (mid : Int) + (m : Int) - 1 - ((s : Int) + (r : Int)) / 2 < (N : Int) := by omega
            have ra35 : IntKind.i64.wrap ((mid : Int) + (m : Int) - 1 - ((s : Int) + (r : Int)) / 2) = (mid : Int) + (m : Int) - 1 - ((s : Int) + (r : Int)) / 2 := by rw [IntKind.wrap_i64]; omega
            have ec35 : (((s : Int) + (r : Int)) / 2).toNat = (s + r) / 2 := by omega
            have pc35 : (0 : Int) ≤ ((s : Int) + (r : Int)) / 2 := by omega
            have bc35 : ((s : Int) + (r : Int)) / 2 < (N : Int) := by omega
            have rc35 : IntKind.i64.wrap (((s : Int) + (r : Int)) / 2) = ((s : Int) + (r : Int)) / 2 := by rw [IntKind.wrap_i64]; omega
            obtain ⟨x35, hx35⟩ : ∃ x, x = d[mid + m - 1 - (s + r) / 2]! := ⟨_, rfl⟩
            obtain ⟨y35, hy35⟩ : ∃ x, x = d[(s + r) / 2]! := ⟨_, rfl⟩
            have l35a := S1.out.ld R.out (by omega) P (mid + m - 1 - (s + r) / 2) (by omega)
            have l35b := S1.out.ld R.out (by omega) P ((s + r) / 2) (by omega)
            rw [← hx35] at l35a
            rw [← hy35] at l35b
            have hc35 := S1.out.cmp HC.out (by omega) x35 y35
            have hv35 : ¬ cf x35 y35 < 0 := by rw [hx35, hy35]; exact of_decide_eq_false hL
            have hd35 : decide (cf x35 y35 < 0) = false := decide_eq_false hv35
            clear hx35 hy35
            go_wp2_with fail
            go_quiet_grown (first | (go_at_fn g; refine Calls.grown_of (hc35 _ _)))
            have S2 : Aside (SWK cR K w0 blk off d (grow (wr.drewN nq) osq)) := S1.out.grown nq osq
            clear l35a l35b hc35 S1
            generalize grow (wr.drewN nq) osq = w2 at S2 ⊢
            clear nq osq
            go_wp2
            go_roundg (r - ((s + r) / 2 + 1))
            case measure => omega
            case rel => exact ⟨(s + r) / 2 + 1, r, by rw [EH.out.2], rfl, by omega, by omega, hjb, Nat.le_refl _, S2, ⟨.inr (by rw [show mid + m - ((s + r) / 2 + 1) = mid + m - 1 - (s + r) / 2 by omega, Nat.add_sub_cancel]; exact hL), HE.out.2⟩⟩
        · have hltz : ¬ (s : Int) < (r : Int) := by omega
          have hE : s = r := by omega
          subst hE
          clear hlt hij hkx
          have hL : Hid (s = a ∨ mid + m - s = b ∨ ltOf cf d[mid + m - s]! d[s - 1]! = false) := hide (by
            rcases HE.out.1 with h | h
            · rcases QE.out.1 with g | g
              · exact .inl (h.trans g)
              · exact .inr (.inl (by rw [h]; exact g))
            · exact .inr (.inr h))
          have hR2 : Hid (s = m ∨ mid + m - s = m ∨ ltOf cf d[mid + m - s - 1]! d[s]! = true) := hide (by
            rcases HE.out.2 with h | h
            · rcases QE.out.2 with g | g
              · exact .inl (h.trans g)
              · exact .inr (.inl (by rw [h]; exact g))
            · exact .inr (.inr (by rw [show mid + m - s - 1 = mid + m - 1 - s by omega]; exact h)))
          have ez : (((mid + m - s : Nat)) : Int) = (mid : Int) + (m : Int) - (s : Int) := by omega
          have z1 : a ≤ s := by omega
          have z2 : s ≤ m := by omega
          have z3 : m ≤ mid + m - s := by omega
          have z4 : mid + m - s ≤ b := by omega
          have z5 : s + (mid + m - s - m) = mid := by omega
          have z6 : s ≤ mid := by omega
          have Z5 := hide z5
          clear z5 HE QE q1 q2 q3 q4 q5 hai hjb
          obtain ⟨e, he⟩ : ∃ e, e = mid + m - s := ⟨_, rfl⟩
          have EZ : Hid ((mid : Int) + (m : Int) - (s : Int) = (e : Int)) := hide (by omega)
          rw [← he] at hL hR2 z3 z4
          have Z5 : Hid (s + (e - m) = mid) := hide (by omega)
          have z7 : e ≤ N := by omega
          clear he ez
          obtain ⟨wo, rfl⟩ : ∃ wo : World, wo = wr := ⟨_, rfl⟩
          obtain ⟨D, hD⟩ : ∃ D, D = (decide (s < m) && decide (m < e)) := ⟨_, rfl⟩
          have HD := hide hD
          clear hD
          go_upto_region 39 with (fail)
          try simp only [EZ.out]
          go_cut [185] from 178 to 185 (fun q wx => q = .bool D ∧ Aside (SWK cR K w0 blk off d wx))
          case first =>
            by_cases g1 : s < m
            · have g1z : (s : Int) < (m : Int) := by omega
              by_cases g2 : m < e
              · have g2z : (m : Int) < (e : Int) := by omega
                have HE := hide (show D = true by rw [HD.out, decide_eq_true g1, decide_eq_true g2]; rfl)
                go_wp2_with fail
                go_meet
                exact ⟨by first | rw [HE.out] | simp [HE.out] | (simp [HE.out]; omega), S1⟩
              · have g2z : decide ((m : Int) < (e : Int)) = false := decide_eq_false (by omega)
                have HE := hide (show D = false by rw [HD.out, decide_eq_true g1, decide_eq_false g2]; rfl)
                go_wp2_with fail
                go_meet
                exact ⟨by first | rw [HE.out] | simp [HE.out] | (simp [HE.out]; omega), S1⟩
            · have g1z : ¬ (s : Int) < (m : Int) := by omega
              have HE := hide (show D = false by rw [HD.out, decide_eq_false g1]; rfl)
              go_wp2_with fail
              go_meet
              exact ⟨by rw [HE.out], S1⟩
          case rest =>
            obtain ⟨rfl, S1⟩ := hcut
            go_upto_if 185 with (fail)

            obtain ⟨w4, rfl⟩ : ∃ w4 : World, w4 = wc := ⟨_, rfl⟩
            go_cut [] from 186 to 191 (fun wx => ∃ d1 : Array Rc, d1.size = N ∧ Aside (SWK cR K w0 blk off d1 wx) ∧ Hid (RotOf d d1 s m e))
            case first =>
              cases D with
              | true =>
                have hg := HD.out
                simp only [Bool.true_eq, Bool.and_eq_true, decide_eq_true_eq] at hg
                have hc := g_rotate L blk off cap N s m e (.func (.func g) #[] cb) d0 d w0 _ R.out hN hs S1.out hg.1 hg.2 z7 hsz
                clear S1 hg HD
                go_wp2_with (go_at_fn 126; refine hc.mono ?_; rintro e w1 ⟨rfl, d1, hw1, S2⟩)
                go_meet
                exact ⟨d1, by rw [hw1.1.1]; exact hs, S2, hw1⟩
              | false =>
                have hr := hide (rot_none d s m e z2 z3 (by
                  have hg := HD.out
                  rw [eq_comm, Bool.and_eq_false_iff, decide_eq_false_iff_not, decide_eq_false_iff_not] at hg
                  omega))
                clear HD
                go_wp2_with fail
                go_meet
                exact ⟨d, hs, S1, hr⟩
            case rest =>
              obtain ⟨d1, hd1, S2, HR⟩ := hcut
              clear S1 HD
              have HSP : Hid (SortedIn (ltOf cf) a s d1 ∧ SortedIn (ltOf cf) s mid d1 ∧ SortedIn (ltOf cf) mid e d1 ∧ SortedIn (ltOf cf) e b d1 ∧ ∀ x y, a ≤ x → x < mid → mid ≤ y → y < b → ltOf cf d1[y]! d1[x]! = false) := hide (by
                have h := sym_split HO.out.1 (by omega) z1 z2 z3 z4 HO.out.2.1 HO.out.2.2 hL.out hR2.out HR.out
                rw [Z5.out] at h
                exact h)
              obtain ⟨D, hD⟩ : ∃ D, D = (decide (a < s) && decide (s < mid)) := ⟨_, rfl⟩
              have HD := hide hD
              clear hD
              go_upto_region 41 with (fail)
              try simp only [EZ.out]
              go_cut [199] from 192 to 199 (fun q wx => q = .bool D ∧ Aside (SWK cR K w0 blk off d1 wx))
              case first =>
                by_cases g1 : a < s
                · have g1z : (a : Int) < (s : Int) := by omega
                  by_cases g2 : s < mid
                  · have g2z : (s : Int) < (mid : Int) := by omega
                    have HE := hide (show D = true by rw [HD.out, decide_eq_true g1, decide_eq_true g2]; rfl)
                    go_wp2_with fail
                    go_meet
                    exact ⟨by first | rw [HE.out] | simp [HE.out] | (simp [HE.out]; omega), S2⟩
                  · have g2z : decide ((s : Int) < (mid : Int)) = false := decide_eq_false (by omega)
                    have HE := hide (show D = false by rw [HD.out, decide_eq_true g1, decide_eq_false g2]; rfl)
                    go_wp2_with fail
                    go_meet
                    exact ⟨by first | rw [HE.out] | simp [HE.out] | (simp [HE.out]; omega), S2⟩
                · have g1z : ¬ (a : Int) < (s : Int) := by omega
                  have HE := hide (show D = false by rw [HD.out, decide_eq_false g1]; rfl)
                  go_wp2_with fail
                  go_meet
                  exact ⟨by rw [HE.out], S2⟩
              case rest =>
                obtain ⟨rfl, S2⟩ := hcut
                go_upto_if 199 with (fail)

                obtain ⟨w5, rfl⟩ : ∃ w5 : World, w5 = wc := ⟨_, rfl⟩
                go_cut [] from 200 to 205 (fun wx => ∃ d2 : Array Rc, d2.size = N ∧ Aside (SWK cR K w0 blk off d2 wx) ∧ Hid (PermIn a mid d1 d2 ∧ SortedIn (ltOf cf) a mid d2))
                case first =>
                  cases D with
                  | true =>
                    have hg := HD.out
                    simp only [Bool.true_eq, Bool.and_eq_true, decide_eq_true_eq] at hg
                    have hc := IH.out a s mid d1 _ (by omega) hd1 S2.out hg.1 hg.2 (by omega) HSP.out.1 HSP.out.2.1
                    clear S2 hg HD
                    go_wp2_with (go_at_fn 121; refine hc.mono ?_; rintro e w1 ⟨rfl, d2, hp2, hs2, S3⟩)
                    go_meet
                    exact ⟨d2, by rw [hp2.1]; exact hd1, S3, ⟨hp2, hs2⟩⟩
                  | false =>
                    have hs2 : SortedIn (ltOf cf) a mid d1 := by
                      have hg := HD.out
                      rw [eq_comm, Bool.and_eq_false_iff, decide_eq_false_iff_not, decide_eq_false_iff_not] at hg
                      rcases hg with hg | hg
                      · have : a = s := by omega
                        rw [this]; exact HSP.out.2.1
                      · have : s = mid := by omega
                        rw [← this]; exact HSP.out.1
                    have HF2 := hide hs2
                    clear hs2 HD
                    go_wp2_with fail
                    go_meet
                    exact ⟨d1, hd1, S2, ⟨permIn_refl _ _ _, HF2.out⟩⟩
                case rest =>
                  obtain ⟨d2, hd2, S3, HP2⟩ := hcut
                  clear S2 HD
                  have HSP2 : Hid (SortedIn (ltOf cf) a mid d2 ∧ SortedIn (ltOf cf) mid e d2 ∧ SortedIn (ltOf cf) e b d2) := hide ⟨HP2.out.2, sorted_out HP2.out.1 HSP.out.2.2.1 (Nat.le_refl _), sorted_out HP2.out.1 HSP.out.2.2.2.1 (by have := Z5.out; omega)⟩
                  have HFIN : Hid (∀ d3, PermIn mid b d2 d3 → SortedIn (ltOf cf) mid b d3 → PermIn a b d d3 ∧ SortedIn (ltOf cf) a b d3) := hide (fun d3 h1 h2 => by
                    obtain ⟨j1, j2⟩ := sym_join (by omega) (by omega) (by omega) HSP.out.2.2.2.2 HP2.out.1 HP2.out.2 h1 h2
                    exact ⟨permIn_trans _ _ _ _ _ (permIn_mono _ _ _ _ _ _ (by omega) (by omega) (by omega) HR.out.1) j1, j2⟩)
                  obtain ⟨D, hD⟩ : ∃ D, D = (decide (mid < e) && decide (e < b)) := ⟨_, rfl⟩
                  have HD := hide hD
                  clear hD
                  go_upto_region 43 with (fail)
                  try simp only [EZ.out]
                  go_cut [213] from 206 to 213 (fun q wx => q = .bool D ∧ Aside (SWK cR K w0 blk off d2 wx))
                  case first =>
                    by_cases g1 : mid < e
                    · have g1z : (mid : Int) < (e : Int) := by omega
                      by_cases g2 : e < b
                      · have g2z : (e : Int) < (b : Int) := by omega
                        have HE := hide (show D = true by rw [HD.out, decide_eq_true g1, decide_eq_true g2]; rfl)
                        go_wp2_with fail
                        go_meet
                        exact ⟨by first | rw [HE.out] | simp [HE.out] | (simp [HE.out]; omega), S3⟩
                      · have g2z : decide ((e : Int) < (b : Int)) = false := decide_eq_false (by omega)
                        have HE := hide (show D = false by rw [HD.out, decide_eq_true g1, decide_eq_false g2]; rfl)
                        go_wp2_with fail
                        go_meet
                        exact ⟨by first | rw [HE.out] | simp [HE.out] | (simp [HE.out]; omega), S3⟩
                    · have g1z : ¬ (mid : Int) < (e : Int) := by omega
                      have HE := hide (show D = false by rw [HD.out, decide_eq_false g1]; rfl)
                      go_wp2_with fail
                      go_meet
                      exact ⟨by rw [HE.out], S3⟩
                  case rest =>
                    obtain ⟨rfl, S3⟩ := hcut
                    go_upto_if 213 with (fail)

                    cases D with
                    | true =>
                      have hg := HD.out
                      simp only [Bool.true_eq, Bool.and_eq_true, decide_eq_true_eq] at hg
                      have hc := IH.out mid e b d2 _ (by omega) hd2 S3.out hg.1 hg.2 hb (HSP2.out.2.1) (HSP2.out.2.2)
                      clear S3 hg HD
                      go_wp2_with (go_at_fn 121; refine hc.mono ?_; rintro e w1 ⟨rfl, d3, hp3, hs3, S4⟩)
                      go_end0
                      exact ⟨rfl, d3, (HFIN.out d3 hp3 hs3).1, (HFIN.out d3 hp3 hs3).2, S4⟩
                    | false =>
                      have hs3 : SortedIn (ltOf cf) mid b d2 := by
                        have hg := HD.out
                        rw [eq_comm, Bool.and_eq_false_iff, decide_eq_false_iff_not, decide_eq_false_iff_not] at hg
                        rcases hg with hg | hg
                        · have : mid = e := by have := Z5.out; omega
                          rw [this]; exact HSP2.out.2.2
                        · have : e = b := by omega
                          rw [← this]; exact HSP2.out.2.1
                      have HF3 := hide (HFIN.out d2 (permIn_refl _ _ _) hs3)
                      clear hs3 HD
                      go_wp2_with fail
                      go_end0
                      exact ⟨rfl, d2, HF3.out.1, HF3.out.2, S3.out⟩
end Go.Proofs.YtcfbgelhggapjaaGreatDoor
