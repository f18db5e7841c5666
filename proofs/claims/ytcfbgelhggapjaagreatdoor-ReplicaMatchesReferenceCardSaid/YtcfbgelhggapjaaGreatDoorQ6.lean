/- Replica: the stable sort at records: one element merged into a sorted piece behind it, or ahead of it. -/
import Derived.Test.YtcfbgelhggapjaaGreatDoorQ5
namespace Go.Proofs.YtcfbgelhggapjaaGreatDoor
open Go.RowKit Go.Shelf Go.Sort Go.Lib
set_option maxHeartbeats 8000000 in
set_option maxRecDepth 1000000 in
theorem g_symOne {P : Program} {K : Nat} (L : StP P K) (blk off cap N a m b : Nat) (g : Nat) (cb : Array Value) (cf : Rc → Rc → Int) (d0 d : Array Rc) (w0 w : World) (eg : ∀ args w, (callFunc g args).run P w = .ok (.enter g args) w) (hcmp : CmpLays P g cb cR K cf blk off d0.size w0) (hO : SWO (ltOf cf))
    (hR : RowK cR K w0 blk off d0) (hN : d0.size = N) (hs : d.size = N) (hS : SWK cR K w0 blk off d w) (ham : a < m) (hmb : m < b) (hb : b ≤ N) (hsz : N < 2305843009213693952) (hA : SortedIn (ltOf cf) a m d) (hB : SortedIn (ltOf cf) m b d) (h1 : m = a + 1) :
    Calls P 121 #[.slice (some ⟨blk, off, none⟩) N cap, .int .i64 a, .int .i64 m, .int .i64 b, .func (.func g) #[] cb] w fun e w' => e = .returned (.tuple #[]) ∧ ∃ d', PermIn a b d d' ∧ SortedIn (ltOf cf) a b d' ∧ SWK cR K w0 blk off d' w' := by
  have R : Aside (RowK cR K w0 blk off d0) := hR
  have S0 : Aside (SWK cR K w0 blk off d w) := hS
  have HC : Aside (CmpLays P g cb cR K cf blk off d0.size w0) := hcmp
  have HO : Hid (SWO (ltOf cf) ∧ SortedIn (ltOf cf) a m d ∧ SortedIn (ltOf cf) m b d) := ⟨hO, hA, hB⟩
  clear hR hS hcmp hO hA hB
  subst h1
  have hq : (((a + 1 : Nat) : Int) - (a : Int) == 1) = true := by simp; omega
  push_cast at hq
  have mixed := L.mixed; have t0 := L.t0; have a0 := L.a0; have z0 := L.z0; have v0 := L.v0; have t3 := L.t3; have a3 := L.a3; have z3 := L.z3; have v3 := L.v3; have t4 := L.t4; have a4 := L.a4; have z4 := L.z4; have v4 := L.v4; have tR := L.tR; have aR := L.aR; have zR := L.zR; have vR := L.vR; have tC := L.tC; have aC := L.aC; have zC := L.zC; have vC := L.vC; have tU := L.tU; have aU := L.aU; have zU := L.zU; have vU := L.vU; have aE := L.aE; have zE := L.zE; have eSw := L.eSw; have eRo := L.eRo; have eSy := L.eSy
  go_enter L.gSy, Tryz.ntmps121
  go_wp2
  go_loopg [10, 11, 12] (b - (a + 1)) (fun kx s10 s11 _ wr => ∃ (i j : Nat), s10 = .int .i64 i ∧ s11 = .int .i64 j ∧ a + 1 ≤ i ∧ i ≤ j ∧ j ≤ b ∧ j - i ≤ kx ∧ Aside (SWK cR K w0 blk off d wr) ∧ Hid ((i = a + 1 ∨ ltOf cf d[i - 1]! d[a]! = true) ∧ (j = b ∨ ltOf cf d[j]! d[a]! = false)))
  case atStart => exact ⟨a + 1, b, by go_num, rfl, Nat.le_refl _, by omega, Nat.le_refl _, Nat.le_refl _, S0, ⟨.inl rfl, .inl rfl⟩⟩
  case round =>
    clear S0
    obtain ⟨i, j, rfl, rfl, hai, hij, hjb, hkx, S1, HE⟩ := hrel
    by_cases hlt : i < j
    · have hltz : (i : Int) < (j : Int) := by omega
      have eh : ((i : Int) + (j : Int)) / 2 = (((i + j) / 2 : Nat) : Int) := by omega
      have eh1 : ((i : Int) + (j : Int)) / 2 + 1 = (((i + j) / 2 + 1 : Nat) : Int) := by omega
      have EH := hide (And.intro eh eh1)
      clear eh eh1
      have hb1 : i ≤ (i + j) / 2 := by omega
      have hb2 : (i + j) / 2 < j := by omega
      cases hL : ltOf cf d[(i + j) / 2]! d[a]! with
      | true =>
        have ea5 : (((i : Int) + (j : Int)) / 2).toNat = (i + j) / 2 := by omega
        have pa5 : (0 : Int) ≤ ((i : Int) + (j : Int)) / 2 := by omega
        have ba5 : ((i : Int) + (j : Int)) / 2 < (N : Int) := by omega
        have ra5 : IntKind.i64.wrap (((i : Int) + (j : Int)) / 2) = ((i : Int) + (j : Int)) / 2 := by rw [IntKind.wrap_i64]; omega
        have ec5 : ((a : Int)).toNat = a := by omega
        have pc5 : (0 : Int) ≤ (a : Int) := by omega
        have bc5 : (a : Int) < (N : Int) := by omega
        have rc5 : IntKind.i64.wrap ((a : Int)) = (a : Int) := by rw [IntKind.wrap_i64]; omega
        obtain ⟨x5, hx5⟩ : ∃ x, x = d[(i + j) / 2]! := ⟨_, rfl⟩
        obtain ⟨y5, hy5⟩ : ∃ x, x = d[a]! := ⟨_, rfl⟩
        have l5a := S1.out.ld R.out (by omega) P ((i + j) / 2) (by omega)
        have l5b := S1.out.ld R.out (by omega) P (a) (by omega)
        rw [← hx5] at l5a
        rw [← hy5] at l5b
        have hc5 := S1.out.cmp HC.out (by omega) x5 y5
        have hv5 : cf x5 y5 < 0 := by rw [hx5, hy5]; exact of_decide_eq_true hL
        have hd5 : decide (cf x5 y5 < 0) = true := decide_eq_true hv5
        clear hx5 hy5
        go_wp2_with fail
        go_quiet_grown (first | (go_at_fn g; refine Calls.grown_of (hc5 _ _)))
        have S2 : Aside (SWK cR K w0 blk off d (grow (wr.drewN nq) osq)) := S1.out.grown nq osq
        clear l5a l5b hc5 S1
        generalize grow (wr.drewN nq) osq = w2 at S2 ⊢
        clear nq osq
        go_wp2
        go_roundg (j - ((i + j) / 2 + 1))
        case measure => omega
        case rel => exact ⟨(i + j) / 2 + 1, j, by rw [EH.out.2], rfl, by omega, by omega, hjb, Nat.le_refl _, S2, ⟨.inr hL, HE.out.2⟩⟩
      | false =>
        have ea5 : (((i : Int) + (j : Int)) / 2).toNat = (i + j) / 2 := by omega
        have pa5 : (0 : Int) ≤ ((i : Int) + (j : Int)) / 2 := by omega
        have ba5 : ((i : Int) + (j : Int)) / 2 < (N : Int) := by omega
        have ra5 : IntKind.i64.wrap (((i : Int) + (j : Int)) / 2) = ((i : Int) + (j : Int)) / 2 := by rw [IntKind.wrap_i64]; omega
        have ec5 : ((a : Int)).toNat = a := by omega
        have pc5 : (0 : Int) ≤ (a : Int) := by omega
        have bc5 : (a : Int) < (N : Int) := by omega
        have rc5 : IntKind.i64.wrap ((a : Int)) = (a : Int) := by rw [IntKind.wrap_i64]; omega
        obtain ⟨x5, hx5⟩ : ∃ x, x = d[(i + j) / 2]! := ⟨_, rfl⟩
        obtain ⟨y5, hy5⟩ : ∃ x, x = d[a]! := ⟨_, rfl⟩
        have l5a := S1.out.ld R.out (by omega) P ((i + j) / 2) (by omega)
        have l5b := S1.out.ld R.out (by omega) P (a) (by omega)
        rw [← hx5] at l5a
        rw [← hy5] at l5b
        have hc5 := S1.out.cmp HC.out (by omega) x5 y5
        have hv5 : ¬ cf x5 y5 < 0 := by rw [hx5, hy5]; exact of_decide_eq_false hL
        have hd5 : decide (cf x5 y5 < 0) = false := decide_eq_false hv5
        clear hx5 hy5
        go_wp2_with fail
        go_quiet_grown (first | (go_at_fn g; refine Calls.grown_of (hc5 _ _)))
        have S2 : Aside (SWK cR K w0 blk off d (grow (wr.drewN nq) osq)) := S1.out.grown nq osq
        clear l5a l5b hc5 S1
        generalize grow (wr.drewN nq) osq = w2 at S2 ⊢
        clear nq osq
        go_wp2
        go_roundg ((i + j) / 2 - i)
        case measure => omega
        case rel => exact ⟨i, (i + j) / 2, rfl, by rw [EH.out.1], hai, by omega, by omega, Nat.le_refl _, S2, ⟨HE.out.1, .inr hL⟩⟩
    · have hltz : ¬ (i : Int) < (j : Int) := by omega
      have hE : i = j := by omega
      subst hE
      clear hlt hij
      go_wp2
      go_loopg [13] (i - (a + 1)) (fun kx s13 wr2 => ∃ (k : Nat) (dk : Array Rc), s13 = .int .i64 k ∧ a ≤ k ∧ k + 1 ≤ i ∧ i - (k + 1) ≤ kx ∧ dk.size = N ∧ Aside (SWK cR K w0 blk off dk wr2) ∧ Hid (RotOf d dk a (a + 1) (k + 1)))
      case atStart => exact ⟨a, d, rfl, Nat.le_refl _, by omega, Nat.le_refl _, hs, S1, rot_none d a (a + 1) (a + 1) (by omega) (Nat.le_refl _) (.inr rfl)⟩
      case round =>
        clear S1
        obtain ⟨k, dk, rfl, hak, hki, hkx2, hds, S2, HR⟩ := hrel
        by_cases hlt : k + 1 < i
        · have hltz2 : (k : Int) < (i : Int) - 1 := by omega
          go_wp2_with fail
          clear hltz2
          have ea11 : ((k : Int)).toNat = k := by omega
          have pa11 : (0 : Int) ≤ (k : Int) := by omega
          have ba11 : (k : Int) < (N : Int) := by omega
          have ra11 : IntKind.i64.wrap ((k : Int)) = (k : Int) := by rw [IntKind.wrap_i64]; omega
          have ec11 : ((k : Int) + 1).toNat = k + 1 := by omega
          have pc11 : (0 : Int) ≤ (k : Int) + 1 := by omega
          have bc11 : (k : Int) + 1 < (N : Int) := by omega
          have rc11 : IntKind.i64.wrap ((k : Int) + 1) = (k : Int) + 1 := by rw [IntKind.wrap_i64]; omega
          have S3 : Aside _ := S2.out.swapped R.out (k) (k + 1) (by omega) (by omega)
          have l11a := S2.out.ld1 R.out (by omega) P (k) (by omega)
          have l11b := S2.out.ld1 R.out (by omega) P (k + 1) (by omega)
          have s11a := S2.out.st1 R.out (by omega) P (k) (by omega) dk[k + 1]!
          have s11b := S2.out.st2 R.out (by omega) P (k) (k + 1) (by omega) (by omega) dk[k + 1]! dk[k]!
          have n11a : (cR dk[k]!).length = K := R.out.hk _
          have n11b : (cR dk[k + 1]!).length = K := R.out.hk _
          generalize cR dk[k]! = cI11 at S3 l11a s11b n11a
          generalize cR dk[k + 1]! = cJ11 at S3 l11b s11a s11b n11b
          clear S2
          go_wp2_with fail
          go_big_region_o
          clear l11a l11b s11a s11b
          generalize (wr.drew.setCells blk (off + (k) * K) cJ11).setCells blk (off + (k + 1) * K) cI11 = w3 at S3 ⊢
          go_wp2
          go_roundg (i - (k + 1 + 1))
          case measure => omega
          case rel =>
            exact ⟨k + 1, swp dk k (k + 1), by go_num, by omega, by omega, Nat.le_refl _, by rw [size_swp]; exact hds, S3, (show Hid _ from rot_up HR.out hak (by omega))⟩
        · have hltz2 : ¬ (k : Int) < (i : Int) - 1 := by omega
          go_wp2
          (try simp only [Exit.inBlock, Exit.then]); refine bodyPost_ret (results_none rfl _ _ _) rfl ?_
          have hk : k + 1 = i := by omega
          obtain ⟨o1, o2, o3⟩ := HO.out
          have h := HR.out
          rw [hk] at h
          obtain ⟨p1, p2⟩ := sym_one o1 (by omega) hai hjb o3 HE.out.2 HE.out.1 h
          exact ⟨rfl, dk, p1, p2, S2.out⟩
set_option maxHeartbeats 8000000 in
set_option maxRecDepth 1000000 in
theorem g_symLast {P : Program} {K : Nat} (L : StP P K) (blk off cap N a m b : Nat) (g : Nat) (cb : Array Value) (cf : Rc → Rc → Int) (d0 d : Array Rc) (w0 w : World) (eg : ∀ args w, (callFunc g args).run P w = .ok (.enter g args) w) (hcmp : CmpLays P g cb cR K cf blk off d0.size w0) (hO : SWO (ltOf cf))
    (hR : RowK cR K w0 blk off d0) (hN : d0.size = N) (hs : d.size = N) (hS : SWK cR K w0 blk off d w) (hmb : m < b) (hb : b ≤ N) (hsz : N < 2305843009213693952) (hA : SortedIn (ltOf cf) a m d) (hB : SortedIn (ltOf cf) m b d) (h0 : a + 1 < m) (h1 : b = m + 1) :
    Calls P 121 #[.slice (some ⟨blk, off, none⟩) N cap, .int .i64 a, .int .i64 m, .int .i64 b, .func (.func g) #[] cb] w fun e w' => e = .returned (.tuple #[]) ∧ ∃ d', PermIn a b d d' ∧ SortedIn (ltOf cf) a b d' ∧ SWK cR K w0 blk off d' w' := by
  have R : Aside (RowK cR K w0 blk off d0) := hR
  have S0 : Aside (SWK cR K w0 blk off d w) := hS
  have HC : Aside (CmpLays P g cb cR K cf blk off d0.size w0) := hcmp
  have HO : Hid (SWO (ltOf cf) ∧ SortedIn (ltOf cf) a m d ∧ SortedIn (ltOf cf) m b d) := ⟨hO, hA, hB⟩
  clear hR hS hcmp hO hA hB
  subst h1
  have hq0 : ((m : Int) - (a : Int) == 1) = false := by simp; omega
  have hq : (((m + 1 : Nat) : Int) - (m : Int) == 1) = true := by simp; omega
  push_cast at hq
  have mixed := L.mixed; have t0 := L.t0; have a0 := L.a0; have z0 := L.z0; have v0 := L.v0; have t3 := L.t3; have a3 := L.a3; have z3 := L.z3; have v3 := L.v3; have t4 := L.t4; have a4 := L.a4; have z4 := L.z4; have v4 := L.v4; have tR := L.tR; have aR := L.aR; have zR := L.zR; have vR := L.vR; have tC := L.tC; have aC := L.aC; have zC := L.zC; have vC := L.vC; have tU := L.tU; have aU := L.aU; have zU := L.zU; have vU := L.vU; have aE := L.aE; have zE := L.zE; have eSw := L.eSw; have eRo := L.eRo; have eSy := L.eSy
  go_enter L.gSy, Tryz.ntmps121
  go_wp2
  go_loopg [14, 15, 16] (m - a) (fun kx s14 s15 _ wr => ∃ (i j : Nat), s14 = .int .i64 i ∧ s15 = .int .i64 j ∧ a ≤ i ∧ i ≤ j ∧ j ≤ m ∧ j - i ≤ kx ∧ Aside (SWK cR K w0 blk off d wr) ∧ Hid ((i = a ∨ ltOf cf d[m]! d[i - 1]! = false) ∧ (j = m ∨ ltOf cf d[m]! d[j]! = true)))
  case atStart => exact ⟨a, m, rfl, rfl, Nat.le_refl _, by omega, Nat.le_refl _, Nat.le_refl _, S0, ⟨.inl rfl, .inl rfl⟩⟩
  case round =>
    clear S0
    obtain ⟨i, j, rfl, rfl, hai, hij, hjb, hkx, S1, HE⟩ := hrel
    by_cases hlt : i < j
    · have hltz : (i : Int) < (j : Int) := by omega
      have eh : ((i : Int) + (j : Int)) / 2 = (((i + j) / 2 : Nat) : Int) := by omega
      have eh1 : ((i : Int) + (j : Int)) / 2 + 1 = (((i + j) / 2 + 1 : Nat) : Int) := by omega
      have EH := hide (And.intro eh eh1)
      clear eh eh1
      have hb1 : i ≤ (i + j) / 2 := by omega
      have hb2 : (i + j) / 2 < j := by omega
      cases hL : ltOf cf d[m]! d[(i + j) / 2]! with
      | true =>
        have ea17 : ((m : Int)).toNat = m := by omega
        have pa17 : (0 : Int) ≤ (m : Int) := by omega
        have ba17 : (m : Int) < (N : Int) := by omega
        have ra17 : IntKind.i64.wrap ((m : Int)) = (m : Int) := by rw [IntKind.wrap_i64]; omega
        have ec17 : (((i : Int) + (j : Int)) / 2).toNat = (i + j) / 2 := by omega
        have pc17 : (0 : Int) ≤ ((i : Int) + (j : Int)) / 2 := by omega
        have bc17 : ((i : Int) + (j : Int)) / 2 < (N : Int) := by omega
        have rc17 : IntKind.i64.wrap (((i : Int) + (j : Int)) / 2) = ((i : Int) + (j : Int)) / 2 := by rw [IntKind.wrap_i64]; omega
        obtain ⟨x17, hx17⟩ : ∃ x, x = d[m]! := ⟨_, rfl⟩
        obtain ⟨y17, hy17⟩ : ∃ x, x = d[(i + j) / 2]! := ⟨_, rfl⟩
        have l17a := S1.out.ld R.out (by omega) P (m) (by omega)
        have l17b := S1.out.ld R.out (by omega) P ((i + j) / 2) (by omega)
        rw [← hx17] at l17a
        rw [← hy17] at l17b
        have hc17 := S1.out.cmp HC.out (by omega) x17 y17
        have hv17 : cf x17 y17 < 0 := by rw [hx17, hy17]; exact of_decide_eq_true hL
        have hd17 : decide (cf x17 y17 < 0) = true := decide_eq_true hv17
        clear hx17 hy17
        go_wp2_with fail
        go_quiet_grown (first | (go_at_fn g; refine Calls.grown_of (hc17 _ _)))
        have S2 : Aside (SWK cR K w0 blk off d (grow (wr.drewN nq) osq)) := S1.out.grown nq osq
        clear l17a l17b hc17 S1
        generalize grow (wr.drewN nq) osq = w2 at S2 ⊢
        clear nq osq
        go_wp2
        go_roundg ((i + j) / 2 - i)
        case measure => omega
        case rel => exact ⟨i, (i + j) / 2, rfl, by rw [EH.out.1], hai, by omega, by omega, Nat.le_refl _, S2, ⟨HE.out.1, .inr hL⟩⟩
      | false =>
        have ea17 : ((m : Int)).toNat = m := by omega
        have pa17 : (0 : Int) ≤ (m : Int) := by omega
        have ba17 : (m : Int) < (N : Int) := by omega
        have ra17 : IntKind.i64.wrap ((m : Int)) = (m : Int) := by rw [IntKind.wrap_i64]; omega
        have ec17 : (((i : Int) + (j : Int)) / 2).toNat = (i + j) / 2 := by omega
        have pc17 : (0 : Int) ≤ ((i : Int) + (j : Int)) / 2 := by omega
        have bc17 : ((i : Int) + (j : Int)) / 2 < (N : Int) := by omega
        have rc17 : IntKind.i64.wrap (((i : Int) + (j : Int)) / 2) = ((i : Int) + (j : Int)) / 2 := by rw [IntKind.wrap_i64]; omega
        obtain ⟨x17, hx17⟩ : ∃ x, x = d[m]! := ⟨_, rfl⟩
        obtain ⟨y17, hy17⟩ : ∃ x, x = d[(i + j) / 2]! := ⟨_, rfl⟩
        have l17a := S1.out.ld R.out (by omega) P (m) (by omega)
        have l17b := S1.out.ld R.out (by omega) P ((i + j) / 2) (by omega)
        rw [← hx17] at l17a
        rw [← hy17] at l17b
        have hc17 := S1.out.cmp HC.out (by omega) x17 y17
        have hv17 : ¬ cf x17 y17 < 0 := by rw [hx17, hy17]; exact of_decide_eq_false hL
        have hd17 : decide (cf x17 y17 < 0) = false := decide_eq_false hv17
        clear hx17 hy17
        go_wp2_with fail
        go_quiet_grown (first | (go_at_fn g; refine Calls.grown_of (hc17 _ _)))
        have S2 : Aside (SWK cR K w0 blk off d (grow (wr.drewN nq) osq)) := S1.out.grown nq osq
        clear l17a l17b hc17 S1
        generalize grow (wr.drewN nq) osq = w2 at S2 ⊢
        clear nq osq
        go_wp2
        go_roundg (j - ((i + j) / 2 + 1))
        case measure => omega
        case rel => exact ⟨(i + j) / 2 + 1, j, by rw [EH.out.2], rfl, by omega, by omega, hjb, Nat.le_refl _, S2, ⟨.inr hL, HE.out.2⟩⟩
    · have hltz : ¬ (i : Int) < (j : Int) := by omega
      have hE : i = j := by omega
      subst hE
      clear hlt hij
      go_wp2
      go_loopg [17] (m - i) (fun kx s17 wr2 => ∃ (k : Nat) (dk : Array Rc), s17 = .int .i64 k ∧ i ≤ k ∧ k ≤ m ∧ k - i ≤ kx ∧ dk.size = N ∧ Aside (SWK cR K w0 blk off dk wr2) ∧ Hid (RotOf d dk k m (m + 1)))
      case atStart => exact ⟨m, d, rfl, hjb, Nat.le_refl _, Nat.le_refl _, hs, S1, rot_none d m m (m + 1) (Nat.le_refl _) (by omega) (.inl rfl)⟩
      case round =>
        clear S1
        obtain ⟨k, dk, rfl, hik, hkm, hkx2, hds, S2, HR⟩ := hrel
        by_cases hlt : i < k
        · have hltz2 : (i : Int) < (k : Int) := by omega
          obtain ⟨kp, rfl⟩ : ∃ kp, k = kp + 1 := ⟨k - 1, by omega⟩
          have ek : (((kp + 1 : Nat) : Int)) = (kp : Int) + 1 := by omega
          rw [ek] at hltz2 ⊢
          go_wp2_with fail
          have ea23 : ((kp : Int) + 1).toNat = kp + 1 := by omega
          have pa23 : (0 : Int) ≤ (kp : Int) + 1 := by omega
          have ba23 : (kp : Int) + 1 < (N : Int) := by omega
          have ra23 : IntKind.i64.wrap ((kp : Int) + 1) = (kp : Int) + 1 := by rw [IntKind.wrap_i64]; omega
          have ec23 : ((kp : Int)).toNat = kp := by omega
          have pc23 : (0 : Int) ≤ (kp : Int) := by omega
          have bc23 : (kp : Int) < (N : Int) := by omega
          have rc23 : IntKind.i64.wrap ((kp : Int)) = (kp : Int) := by rw [IntKind.wrap_i64]; omega
          have S3 : Aside _ := S2.out.swapped R.out (kp + 1) (kp) (by omega) (by omega)
          have l23a := S2.out.ld1 R.out (by omega) P (kp + 1) (by omega)
          have l23b := S2.out.ld1 R.out (by omega) P (kp) (by omega)
          have s23a := S2.out.st1 R.out (by omega) P (kp + 1) (by omega) dk[kp]!
          have s23b := S2.out.st2 R.out (by omega) P (kp + 1) (kp) (by omega) (by omega) dk[kp]! dk[kp + 1]!
          have n23a : (cR dk[kp + 1]!).length = K := R.out.hk _
          have n23b : (cR dk[kp]!).length = K := R.out.hk _
          generalize cR dk[kp + 1]! = cI23 at S3 l23a s23b n23a
          generalize cR dk[kp]! = cJ23 at S3 l23b s23a s23b n23b
          clear S2
          go_wp2_with fail
          go_big_region_o
          clear l23a l23b s23a s23b
          generalize (wr.drew.setCells blk (off + (kp + 1) * K) cJ23).setCells blk (off + (kp) * K) cI23 = w3 at S3 ⊢
          go_wp2
          go_roundg (kp - i)
          case measure => omega
          case rel =>
            exact ⟨kp, swp dk (kp + 1) kp, by first | rfl | go_num | (congr 1; omega), by omega, by omega, Nat.le_refl _, by rw [size_swp]; exact hds, S3, (show Hid _ from rot_down HR.out (by omega) (by omega))⟩
        · have hltz2 : ¬ (i : Int) < (k : Int) := by omega
          go_wp2
          (try simp only [Exit.inBlock, Exit.then]); refine bodyPost_ret (results_none rfl _ _ _) rfl ?_
          have hk : k = i := by omega
          obtain ⟨o1, o2, o3⟩ := HO.out
          have h := HR.out
          rw [hk] at h
          obtain ⟨p1, p2⟩ := sym_last o1 (by omega) hai hjb o2 HE.out.1 HE.out.2 h
          exact ⟨rfl, dk, p1, p2, S2.out⟩
end Go.Proofs.YtcfbgelhggapjaaGreatDoor
