/- Contract: the reference's Given. -/
import Derived.Test.YtncdombfhcfobaaM21
import Derived.Test.YtncdombfhcfobaaRy2
namespace Go.Proofs.Ytncdombfhcfobaa
open Go.RowKit
theorem c_rpickv {c n v : Int} (h : pk c n = v) (w : World) (hc : -9223372036854775808 ≤ c) (hc' : c ≤ 9223372036854775807) (hn : 1 ≤ n) (hn' : n ≤ 9223372036854775807) :
    Calls Try.prog 36 #[.int .i64 c, .int .i64 n] w fun e w' => e = .returned (.int .i64 v) ∧ w = w' := h ▸ c_rpick c n w hc hc' hn hn'
def okN (x : Int) : Prop := -9223372036854775808 ≤ x ∧ x ≤ 9223372036854775807
def ok3 (a : I3) : Prop := okN a.1 ∧ okN a.2.1 ∧ okN a.2.2
def gvTx (n : Int) : ByteArray := if n = 0 then ⟨#[97]⟩ else if n = 1 then ⟨#[98]⟩ else if n = 2 then ⟨#[]⟩ else ⟨#[99, 99]⟩
def gvI (c d : Int) (a : I3) : It :=
  if 1 < c ∧ pk a.2.2 4 = 0 then ⟨d, 2, pk a.2.1 50, pk a.2.2 50, ⟨#[]⟩, 1 + pk a.2.1 (c - 1)⟩ else ⟨d, 1, pk a.2.1 50, pk a.2.2 50, gvTx (pk a.2.1 4), 0⟩
def gvStep (c : Int) (s : Int × List It) (a : I3) : Int × List It := (s.1 + pk a.1 3 + 1, s.2 ++ [gvI c (s.1 + pk a.1 3) a])
def gvF (c : Int) (l : List I3) : Int × List It := l.foldl (gvStep c) (0, [])
def givenL (c : Int) (l : List I3) : List It := (gvF c (l.take 5)).2
theorem gvF_snoc (c : Int) (l : List I3) (k : Nat) (hk : k < l.length) : gvF c (l.take (k + 1)) = gvStep c (gvF c (l.take k)) l[k] := by
  unfold gvF
  rw [List.take_succ_eq_append_getElem hk, List.foldl_append]; rfl
theorem gvF_bd (c : Int) (l : List I3) : ∀ k, k ≤ l.length → 0 ≤ (gvF c (l.take k)).1 ∧ (gvF c (l.take k)).1 ≤ 3 * k ∧ (gvF c (l.take k)).2.length = k
  | 0, _ => by simp [gvF]
  | k + 1, h => by
    have ⟨h1, h2, h3⟩ := gvF_bd c l k (by omega)
    rw [gvF_snoc c l k (by omega)]
    have := pk_range (l[k]'(by omega)).1 3 (by omega)
    simp only [gvStep, List.length_append, List.length_singleton]
    refine ⟨by omega, by omega, by omega⟩
theorem SlR.len3 {w : World} {B n : Nat} {A : Option Addr} {l : List I3} (h : SlR w B 3 A n (l.flatMap c3)) : l.length = n := by
  have := h.1
  rw [flat_len c3 3 (fun _ => rfl)] at this
  omega
theorem gv_tab (W : World) (q : Int) (h : 0 ≤ q ∧ q < 4) : (W.alloc (.cells #[.string ⟨#[97]⟩, .string ⟨#[98]⟩, .string ⟨#[]⟩, .string ⟨#[99, 99]⟩] 9)).cell? ⟨W.heap.size, q.toNat, none⟩ = some (.string (gvTx q)) := by
  have g := Blk.new W 9 [.string ⟨#[97]⟩, .string ⟨#[98]⟩, .string ⟨#[]⟩, .string ⟨#[99, 99]⟩]
  have := g.cell q.toNat
  rw [show (W.alloc (.cells #[.string ⟨#[97]⟩, .string ⟨#[98]⟩, .string ⟨#[]⟩, .string ⟨#[99, 99]⟩] 9)) = W.alloc (.cells [.string ⟨#[97]⟩, .string ⟨#[98]⟩, .string ⟨#[]⟩, .string ⟨#[99, 99]⟩].toArray 9) from rfl, this]
  have h4 : q = 0 ∨ q = 1 ∨ q = 2 ∨ q = 3 := by omega
  rcases h4 with rfl | rfl | rfl | rfl <;> rfl
/-- the item's block, behind regions 7 to 9 -/
def GvCut (wo : World) (s : It) (v : Value) (wx : World) : Prop :=
  ∃ g, v = .pointer (some ⟨g, 0, none⟩) ∧ Blk wx g 36 (cI s) ∧ Below wo.heap.size wo wx ∧ wo.heap.size ≤ g
def GivenPost (c : Int) (l : List I3) (w : World) (e : Ending) (w' : World) : Prop :=
  ∃ v, e = .returned v ∧ w'.ownsRow w.heap.size 36 6 v (givenL c l).length ((givenL c l).flatMap cI) ∧ Below w.heap.size w w'
set_option linter.unusedSimpArgs false in
set_option maxRecDepth 100000 in
set_option maxHeartbeats 8000000 in
theorem c_Given (A : Option Addr) (n cc : Nat) (l : List I3) (c : Int) (w : World) (hn : n ≤ 9223372036854775807) (hr : SlR w w.heap.size 3 A n (l.flatMap c3)) (hok : ∀ a ∈ l, ok3 a) (hc : okN c) :
    Calls Try.prog 10 #[.slice A n cc, .int .i64 c] w (GivenPost c l w) := by
  obtain ⟨i0, hi, hz0, hz1, hz2⟩ := info_parts Try.infoItem
  have hl := hr.len3
  have HL := hide hl
  obtain ⟨hc1, hc2⟩ := hc
  go_enter Try.func10, Try.ntmps10
  go_wp2
  go_loopw [5, 6, 7] (fun v d i wr => ∃ k : Nat, k ≤ n ∧ k ≤ 5 ∧ i = .int .i64 k ∧ d = .int .i64 (gvF c (l.take k)).1 ∧ wr.ownsRow w.heap.size 36 6 v (gvF c (l.take k)).2.length ((gvF c (l.take k)).2.flatMap cI) ∧ Below w.heap.size w wr) (fun _ _ i _ => n - (intOf i).toNat)
  case atStart => exact ⟨0, by omega, by omega, rfl, rfl, World.ownsRow_nil _ _ _ _, Below.refl _ _⟩
  case round =>
    obtain ⟨k, hk, hk5, rfl, rfl, hown, hb⟩ := hrel
    by_cases hlt : k < n
    · have hji : (k : Int) < (n : Int) := by omega
      by_cases hlt5 : k < 5
      · have hji5 : (k : Int) < 5 := by omega
        have hkl : k < l.length := by omega
        have HSn := hide (show (gvF c (l.take (k + 1))).1 = (gvF c (l.take k)).1 + pk l[k].1 3 + 1 ∧ (gvF c (l.take (k + 1))).2 = (gvF c (l.take k)).2 ++ [gvI c ((gvF c (l.take k)).1 + pk l[k].1 3) l[k]] from by rw [gvF_snoc c l k hkl]; exact ⟨rfl, rfl⟩)
        obtain ⟨hb1, hb2, hPk⟩ := gvF_bd c l k (by omega)
        have hPl : (gvF c (l.take k)).2.length ≤ 5 := by omega
        clear hPk
        have hoka := hok _ (List.getElem_mem hkl)
        obtain ⟨b, off, hAe, hbb, -⟩ : ∃ b off, A = some ⟨b, off, none⟩ ∧ b < w.heap.size ∧ True := by
          subst hl
          obtain ⟨b, off, h1, h2, _⟩ := hr.at3 (Below.refl _ _) hkl
          exact ⟨b, off, h1, h2, trivial⟩
        have hcell := fun (W : World) (h : Below w.heap.size w W) => (show W.cell? ⟨b, off + k * 3, none⟩ = some (.int .i64 l[k].1) ∧ W.cell? ⟨b, off + k * 3 + 1, none⟩ = some (.int .i64 l[k].2.1) ∧ W.cell? ⟨b, off + k * 3 + 2, none⟩ = some (.int .i64 l[k].2.2) by
          subst hl
          obtain ⟨b', off', h1, h2, h3⟩ := hr.at3 h hkl
          rw [hAe] at h1
          cases h1
          exact h3)
        rw [hAe] at *
        clear hAe hr hl hok
        generalize (gvF c (l.take k)).1 = d at *
        generalize (gvF c (l.take k)).2 = P at *
        generalize l[k] = a at *
        obtain ⟨a0, a1, a2⟩ := a
        obtain ⟨⟨o1, o2⟩, ⟨o3, o4⟩, ⟨o5, o6⟩⟩ := hoka
        dsimp only at *
        have r3 := pk_range a0 3 (by omega)
        have r1 := pk_range a1 50 (by omega)
        have r2 := pk_range a2 50 (by omega)
        have r4 := pk_range a1 4 (by omega)
        have HC := hide hcell
        obtain ⟨x0, x1, x2⟩ := hcell wr hb
        clear hcell
        generalize hp3 : pk a0 3 = p3 at *
        generalize hp1 : pk a1 50 = p1 at *
        generalize hp2 : pk a2 50 = p2 at *
        generalize hp4 : pk a1 4 = p4 at *
        have HP := hide (And.intro hp3 (And.intro hp1 (And.intro hp2 hp4)))
        clear hp3 hp1 hp2 hp4
        have hbs := hb.size
        go_wp2_with (go_at_call 36; refine (c_rpickv HP.out.1 _ o1 o2 (by omega) (by omega)).mono ?_; rintro e w1 ⟨rfl, rfl⟩)
        have hx : ∀ W, Below wr.heap.size wr W → (W.cell? ⟨b, off + k * 3, none⟩ = some (.int .i64 a0) ∧ W.cell? ⟨b, off + k * 3 + 1, none⟩ = some (.int .i64 a1) ∧ W.cell? ⟨b, off + k * 3 + 2, none⟩ = some (.int .i64 a2)) ∧ Below wr.heap.size wr W := fun W h => ⟨HC.out W (bthen hb h), h⟩
        have HX := hide hx
        clear hx
        have hd0 : d + p3 ≤ 100 := by omega
        have hd1 : 0 ≤ d + p3 := by omega
        generalize d + p3 = e at *
        have hT1 := gv_tab wr p4 r4
        have hT2 : ((wr.alloc (.cells #[.string ⟨#[97]⟩, .string ⟨#[98]⟩, .string ⟨#[]⟩, .string ⟨#[99, 99]⟩] 9)).alloc (.cells #[.int .i64 0, .int .i64 0, .int .i64 0, .int .i64 0, .string ⟨#[]⟩, .int .i64 0] 36)).cell? ⟨wr.heap.size, p4.toNat, none⟩ = some (.string (gvTx p4)) := ((balloc (Below.refl _ (wr.alloc (.cells #[.string ⟨#[97]⟩, .string ⟨#[98]⟩, .string ⟨#[]⟩, .string ⟨#[99, 99]⟩] 9))) _).cell (p := ⟨wr.heap.size, _, none⟩) (by simp)).trans hT1
        have hT3 : ((wr.alloc (.cells #[.int .i64 0, .int .i64 0, .int .i64 0, .int .i64 0, .string ⟨#[]⟩, .int .i64 0] 36)).alloc (.cells #[.string ⟨#[97]⟩, .string ⟨#[98]⟩, .string ⟨#[]⟩, .string ⟨#[99, 99]⟩] 9)).cell? ⟨wr.heap.size + 1, p4.toNat, none⟩ = some (.string (gvTx p4)) := by
          have := gv_tab (wr.alloc (.cells #[.int .i64 0, .int .i64 0, .int .i64 0, .int .i64 0, .string ⟨#[]⟩, .int .i64 0] 36)) p4 r4
          rw [show (wr.alloc (.cells #[.int .i64 0, .int .i64 0, .int .i64 0, .int .i64 0, .string ⟨#[]⟩, .int .i64 0] 36)).heap.size = wr.heap.size + 1 from by simp] at this
          exact this
        generalize htx : gvTx p4 = tx at *
        have HTx := hide htx
        clear htx
        go_upto_region 7 with (fail)
        go_cut [8] (fun v wx => GvCut wr ⟨e, 1, p1, p2, tx, 0⟩ v wx)
        case first =>
          refine wp_region_held_drew (S := fun W => (W.cell? ⟨b, off + k * 3, none⟩ = some (.int .i64 a0) ∧ W.cell? ⟨b, off + k * 3 + 1, none⟩ = some (.int .i64 a1) ∧ W.cell? ⟨b, off + k * 3 + 2, none⟩ = some (.int .i64 a2)) ∧ Below wr.heap.size wr W) (by kernel_rfl) (HX.out _ (bdrew (Below.refl _ _))) (fun hHeld => ?_)
          refine wpAnyH_take (i := 0) (v := ?_) rfl (by kernel_rfl) (by kernel_rfl) (by kernel_rfl) (fun _ _ _ h => h) (Or.inl ⟨by rfl, ?hy1⟩) (by assumption) ?rs1
          case hy1 => (intro w hSw; (try dsimp only at hSw); go_simp; try (with_reducible rfl))
          (try simp only [Act.put, List.setIfInBounds_toArray, List.set_cons_zero, List.set_cons_succ])
          refine wpAnyH_take (i := 1) (v := ?_) rfl (by kernel_rfl) (by kernel_rfl) (by kernel_rfl) (fun _ _ _ h => h) (Or.inl ⟨by rfl, ?hy2⟩) (by assumption) ?rs2
          case hy2 => (intro w hSw; (try dsimp only at hSw); go_simp; try (with_reducible rfl))
          (try simp only [Act.put, List.setIfInBounds_toArray, List.set_cons_zero, List.set_cons_succ])
          refine wpAnyH_take (i := 2) (v := ?_) rfl (by kernel_rfl) (by kernel_rfl) (by kernel_rfl) (fun _ _ _ h => h) (Or.inl ⟨by rfl, ?hy3⟩) (by assumption) ?rs3
          case hy3 => (intro w hSw; (try dsimp only at hSw); go_simp; try (with_reducible rfl))
          (try simp only [Act.put, List.setIfInBounds_toArray, List.set_cons_zero, List.set_cons_succ])
          refine wpAnyH_take (i := 3) (v := ?_) rfl (by kernel_rfl) (by kernel_rfl) (by kernel_rfl) (fun _ _ _ h => h) (Or.inl ⟨by rfl, ?hy4⟩) (by assumption) ?rs4
          case hy4 => (intro w hSw; (try dsimp only at hSw); go_simp; try (with_reducible rfl))
          (try simp only [Act.put, List.setIfInBounds_toArray, List.set_cons_zero, List.set_cons_succ])
          refine wpAnyH_take (i := 4) (v := ?_) rfl (by kernel_rfl) (by kernel_rfl) (by kernel_rfl) (fun _ _ _ h => h) (Or.inl ⟨by rfl, ?hy5⟩) (by assumption) ?rs5
          case hy5 => (intro w hSw; (try dsimp only at hSw); go_simp; try (with_reducible rfl))
          (try simp only [Act.put, List.setIfInBounds_toArray, List.set_cons_zero, List.set_cons_succ])
          refine wpAnyH_take (i := 5) (v := ?_) rfl (by kernel_rfl) (by kernel_rfl) (by kernel_rfl) (fun _ _ _ h => h) (Or.inl ⟨by rfl, ?hy6⟩) (by assumption) ?rs6
          case hy6 => (intro w hSw; (try dsimp only at hSw); go_simp; try (with_reducible rfl))
          (try simp only [Act.put, List.setIfInBounds_toArray, List.set_cons_zero, List.set_cons_succ])
          refine wpAnyH_call (i := 6) rfl (by kernel_rfl) (by kernel_rfl) (by kernel_rfl) (fun _ _ _ h => h) (by rfl) ?he7 (fun w hSw => (c_rpickv HP.out.2.1 _ o3 o4 (by omega) (by omega))) (by assumption) ?rs7
          case he7 => (intro w hSw; (try dsimp only at hSw); go_simp)
          (try simp only [Act.put, List.setIfInBounds_toArray, List.set_cons_zero, List.set_cons_succ])
          refine wpAnyH_take (i := 7) (v := ?_) rfl (by kernel_rfl) (by kernel_rfl) (by kernel_rfl) (fun _ _ _ h => h) (Or.inl ⟨by rfl, ?hy8⟩) (by assumption) ?rs8
          case hy8 => (intro w hSw; (try dsimp only at hSw); go_simp; try (with_reducible rfl))
          (try simp only [Act.put, List.setIfInBounds_toArray, List.set_cons_zero, List.set_cons_succ])
          refine wpAnyH_take (i := 8) (v := ?_) rfl (by kernel_rfl) (by kernel_rfl) (by kernel_rfl) (fun _ _ _ h => h) (Or.inl ⟨by rfl, ?hy9⟩) (by assumption) ?rs9
          case hy9 => (intro w hSw; (try dsimp only at hSw); go_simp; try (with_reducible rfl))
          (try simp only [Act.put, List.setIfInBounds_toArray, List.set_cons_zero, List.set_cons_succ])
          refine wpAnyH_take (i := 9) (v := ?_) rfl (by kernel_rfl) (by kernel_rfl) (by kernel_rfl) (fun _ _ _ h => h) (Or.inl ⟨by rfl, ?hy10⟩) (by assumption) ?rs10
          case hy10 => (intro w hSw; (try dsimp only at hSw); go_simp; try (with_reducible rfl))
          (try simp only [Act.put, List.setIfInBounds_toArray, List.set_cons_zero, List.set_cons_succ])
          refine wpAnyH_take (i := 10) (v := ?_) rfl (by kernel_rfl) (by kernel_rfl) (by kernel_rfl) (fun _ _ _ h => h) (Or.inl ⟨by rfl, ?hy11⟩) (by assumption) ?rs11
          case hy11 => (intro w hSw; (try dsimp only at hSw); go_simp; try (with_reducible rfl))
          (try simp only [Act.put, List.setIfInBounds_toArray, List.set_cons_zero, List.set_cons_succ])
          refine wpAnyH_take (i := 11) (v := ?_) rfl (by kernel_rfl) (by kernel_rfl) (by kernel_rfl) (fun _ _ _ h => h) (Or.inl ⟨by rfl, ?hy12⟩) (by assumption) ?rs12
          case hy12 => (intro w hSw; (try dsimp only at hSw); go_simp; try (with_reducible rfl))
          (try simp only [Act.put, List.setIfInBounds_toArray, List.set_cons_zero, List.set_cons_succ])
          refine wpAnyH_call (i := 12) rfl (by kernel_rfl) (by kernel_rfl) (by kernel_rfl) (fun _ _ _ h => h) (by rfl) ?he13 (fun w hSw => (c_rpickv HP.out.2.2.1 _ o5 o6 (by omega) (by omega))) (by assumption) ?rs13
          case he13 => (intro w hSw; (try dsimp only at hSw); go_simp)
          (try simp only [Act.put, List.setIfInBounds_toArray, List.set_cons_zero, List.set_cons_succ])
          refine wpAnyH_take (i := 13) (v := ?_) rfl (by kernel_rfl) (by kernel_rfl) (by kernel_rfl) (fun _ _ _ h => h) (Or.inl ⟨by rfl, ?hy14⟩) (by assumption) ?rs14
          case hy14 => (intro w hSw; (try dsimp only at hSw); go_simp; try (with_reducible rfl))
          (try simp only [Act.put, List.setIfInBounds_toArray, List.set_cons_zero, List.set_cons_succ])
          refine wpAnyH_take (i := 15) (v := ?_) rfl (by kernel_rfl) (by kernel_rfl) (by kernel_rfl) (fun _ _ _ h => h) (Or.inl ⟨by rfl, ?hy15⟩) (by assumption) ?rs15
          case hy15 => (intro w hSw; (try dsimp only at hSw); go_simp; try (with_reducible rfl))
          (try simp only [Act.put, List.setIfInBounds_toArray, List.set_cons_zero, List.set_cons_succ])
          refine wpAnyH_take (i := 16) (v := ?_) rfl (by kernel_rfl) (by kernel_rfl) (by kernel_rfl) (fun _ _ _ h => h) (Or.inl ⟨by rfl, ?hy16⟩) (by assumption) ?rs16
          case hy16 => (intro w hSw; (try dsimp only at hSw); go_simp; try (with_reducible rfl))
          (try simp only [Act.put, List.setIfInBounds_toArray, List.set_cons_zero, List.set_cons_succ])
          refine wpAnyH_take (i := 17) (v := ?_) rfl (by kernel_rfl) (by kernel_rfl) (by kernel_rfl) (fun _ _ _ h => h) (Or.inl ⟨by rfl, ?hy17⟩) (by assumption) ?rs17
          case hy17 => (intro w hSw; (try dsimp only at hSw); go_simp; try (with_reducible rfl))
          (try simp only [Act.put, List.setIfInBounds_toArray, List.set_cons_zero, List.set_cons_succ])
          refine wpAnyH_take (i := 18) (v := ?_) rfl (by kernel_rfl) (by kernel_rfl) (by kernel_rfl) (fun _ _ _ h => h) (Or.inl ⟨by rfl, ?hy18⟩) (by assumption) ?rs18
          case hy18 => (intro w hSw; (try dsimp only at hSw); go_simp; try (with_reducible rfl))
          (try simp only [Act.put, List.setIfInBounds_toArray, List.set_cons_zero, List.set_cons_succ])
          refine wpAnyH_take (i := 19) (v := ?_) rfl (by kernel_rfl) (by kernel_rfl) (by kernel_rfl) (fun _ _ _ h => h) (Or.inl ⟨by rfl, ?hy19⟩) (by assumption) ?rs19
          case hy19 => (intro w hSw; (try dsimp only at hSw); go_simp; try (with_reducible rfl))
          (try simp only [Act.put, List.setIfInBounds_toArray, List.set_cons_zero, List.set_cons_succ])
          refine wpAnyH_call (i := 20) rfl (by kernel_rfl) (by kernel_rfl) (by kernel_rfl) (fun _ _ _ h => h) (by rfl) ?he20 (fun w hSw => (c_rpickv HP.out.2.2.2 _ o3 o4 (by omega) (by omega))) (by assumption) ?rs20
          case he20 => (intro w hSw; (try dsimp only at hSw); go_simp)
          (try simp only [Act.put, List.setIfInBounds_toArray, List.set_cons_zero, List.set_cons_succ])
          refine wpAnyH_ready (rs := [14, 24]) (by kernel_rfl) (by simp) ?_
          have gA : Blk ((wr.alloc (.cells #[.string ⟨#[97]⟩, .string ⟨#[98]⟩, .string ⟨#[]⟩, .string ⟨#[99, 99]⟩] 9)).alloc (.cells #[.int .i64 e, .int .i64 1, .int .i64 p1, .int .i64 p2, .string tx, .int .i64 0] 36)) (wr.heap.size + 1) 36 (cI ⟨e, 1, p1, p2, tx, 0⟩) := by
            have := Blk.new (wr.alloc (.cells #[.string ⟨#[97]⟩, .string ⟨#[98]⟩, .string ⟨#[]⟩, .string ⟨#[99, 99]⟩] 9)) 36 (cI ⟨e, 1, p1, p2, tx, 0⟩)
            rw [show (wr.alloc (.cells #[.string ⟨#[97]⟩, .string ⟨#[98]⟩, .string ⟨#[]⟩, .string ⟨#[99, 99]⟩] 9)).heap.size = wr.heap.size + 1 from by simp] at this
            exact this
          have gB : Blk ((wr.alloc (.cells #[.int .i64 e, .int .i64 1, .int .i64 p1, .int .i64 p2, .string tx, .int .i64 0] 36)).alloc (.cells #[.string ⟨#[97]⟩, .string ⟨#[98]⟩, .string ⟨#[]⟩, .string ⟨#[99, 99]⟩] 9)) wr.heap.size 36 (cI ⟨e, 1, p1, p2, tx, 0⟩) := (Blk.new wr 36 (cI ⟨e, 1, p1, p2, tx, 0⟩)).alloc _
          refine AllReadyH.cons rfl (fun K hK => ?_) ?_
          · go_simp
            refine hK.out _ _ (by exact (HX.out _ (bdrew (balloc (Below.refl _ _) _)))) (fun hHeld => ?_)
            clear hK K
            (try simp only [Act.put, List.setIfInBounds_toArray, List.set_cons_zero, List.set_cons_succ])
            refine wpAnyH_take (i := 21) (v := ?_) rfl (by kernel_rfl) (by kernel_rfl) (by kernel_rfl) (fun _ _ _ h => h) (Or.inl ⟨by rfl, ?hy21⟩) (by assumption) ?rs21
            case hy21 => (intro w hSw; (try dsimp only at hSw); go_simp; try (with_reducible rfl))
            (try simp only [Act.put, List.setIfInBounds_toArray, List.set_cons_zero, List.set_cons_succ])
            refine wpAnyH_ready (rs := [22, 24]) (by kernel_rfl) (by simp) ?_
            refine AllReadyH.cons rfl (fun K hK => ?_) ?_
            · go_simp
              refine hK.out _ _ (by exact (HX.out _ (bdrew (balloc (Below.refl _ _) _)))) (fun hHeld => ?_)
              clear hK K
              (try simp only [Act.put, List.setIfInBounds_toArray, List.set_cons_zero, List.set_cons_succ])
              refine wpAnyH_take (i := 23) (v := ?_) rfl (by kernel_rfl) (by kernel_rfl) (by kernel_rfl) (fun _ _ _ h => h) (Or.inl ⟨by rfl, ?hy22⟩) (by assumption) ?rs22
              case hy22 => (intro w hSw; (try dsimp only at hSw); go_simp; try (with_reducible rfl))
              (try simp only [Act.put, List.setIfInBounds_toArray, List.set_cons_zero, List.set_cons_succ])
              refine wpAnyH_ready (rs := [24]) (by kernel_rfl) (by simp) ?_
              refine AllReadyH.cons rfl (fun K hK => ?_) ?_
              · go_simp
                refine hK.out _ _ (by exact (HX.out _ (bdrew (balloc (balloc (Below.refl _ _) _) _)))) (fun hHeld => ?_)
                clear hK K
                (try simp only [Act.put, List.setIfInBounds_toArray, List.set_cons_zero, List.set_cons_succ])
                refine wpAnyH_ready (rs := [25]) (by kernel_rfl) (by simp) ?_
                refine AllReadyH.cons rfl (fun K hK => ?_) ?_
                · go_simp
                  refine hK.out _ _ (by exact (HX.out _ (bdrew (balloc (balloc (Below.refl _ _) _) _)))) (fun hHeld => ?_)
                  clear hK K
                  (try simp only [Act.put, List.setIfInBounds_toArray, List.set_cons_zero, List.set_cons_succ])
                  refine wpAnyH_done (by kernel_rfl) ?_ _
                  go_wp2_with fail
                  go_meet
                  exact ⟨wr.heap.size + 1, rfl, gA.drew, bdrew (balloc (balloc (Below.refl _ _) _) _), Nat.le_succ _⟩
                exact AllReadyH.nil
              exact AllReadyH.nil
            refine AllReadyH.cons rfl (fun K hK => ?_) ?_
            · go_simp
              refine hK.out _ _ (by exact (HX.out _ (bdrew (balloc (balloc (Below.refl _ _) _) _)))) (fun hHeld => ?_)
              clear hK K
              (try simp only [Act.put, List.setIfInBounds_toArray, List.set_cons_zero, List.set_cons_succ])
              refine wpAnyH_ready (rs := [22]) (by kernel_rfl) (by simp) ?_
              refine AllReadyH.cons rfl (fun K hK => ?_) ?_
              · go_simp
                refine hK.out _ _ (by exact (HX.out _ (bdrew (balloc (balloc (Below.refl _ _) _) _)))) (fun hHeld => ?_)
                clear hK K
                (try simp only [Act.put, List.setIfInBounds_toArray, List.set_cons_zero, List.set_cons_succ])
                refine wpAnyH_take (i := 23) (v := ?_) rfl (by kernel_rfl) (by kernel_rfl) (by kernel_rfl) (fun _ _ _ h => h) (Or.inl ⟨by rfl, ?hy23⟩) (by assumption) ?rs23
                case hy23 => (intro w hSw; (try dsimp only at hSw); go_simp; try (with_reducible rfl))
                (try simp only [Act.put, List.setIfInBounds_toArray, List.set_cons_zero, List.set_cons_succ])
                refine wpAnyH_ready (rs := [25]) (by kernel_rfl) (by simp) ?_
                refine AllReadyH.cons rfl (fun K hK => ?_) ?_
                · go_simp
                  refine hK.out _ _ (by exact (HX.out _ (bdrew (balloc (balloc (Below.refl _ _) _) _)))) (fun hHeld => ?_)
                  clear hK K
                  (try simp only [Act.put, List.setIfInBounds_toArray, List.set_cons_zero, List.set_cons_succ])
                  refine wpAnyH_done (by kernel_rfl) ?_ _
                  go_wp2_with fail
                  go_meet
                  exact ⟨wr.heap.size + 1, rfl, gA.drew, bdrew (balloc (balloc (Below.refl _ _) _) _), Nat.le_succ _⟩
                exact AllReadyH.nil
              exact AllReadyH.nil
            exact AllReadyH.nil
          refine AllReadyH.cons rfl (fun K hK => ?_) ?_
          · go_simp
            refine hK.out _ _ (by exact (HX.out _ (bdrew (balloc (Below.refl _ _) _)))) (fun hHeld => ?_)
            clear hK K
            (try simp only [Act.put, List.setIfInBounds_toArray, List.set_cons_zero, List.set_cons_succ])
            refine wpAnyH_ready (rs := [14]) (by kernel_rfl) (by simp) ?_
            refine AllReadyH.cons rfl (fun K hK => ?_) ?_
            · go_simp
              refine hK.out _ _ (by exact (HX.out _ (bdrew (balloc (balloc (Below.refl _ _) _) _)))) (fun hHeld => ?_)
              clear hK K
              (try simp only [Act.put, List.setIfInBounds_toArray, List.set_cons_zero, List.set_cons_succ])
              refine wpAnyH_take (i := 21) (v := ?_) rfl (by kernel_rfl) (by kernel_rfl) (by kernel_rfl) (fun _ _ _ h => h) (Or.inl ⟨by rfl, ?hy24⟩) (by assumption) ?rs24
              case hy24 => (intro w hSw; (try dsimp only at hSw); go_simp; try (with_reducible rfl))
              (try simp only [Act.put, List.setIfInBounds_toArray, List.set_cons_zero, List.set_cons_succ])
              refine wpAnyH_ready (rs := [22]) (by kernel_rfl) (by simp) ?_
              refine AllReadyH.cons rfl (fun K hK => ?_) ?_
              · go_simp
                refine hK.out _ _ (by exact (HX.out _ (bdrew (balloc (balloc (Below.refl _ _) _) _)))) (fun hHeld => ?_)
                clear hK K
                (try simp only [Act.put, List.setIfInBounds_toArray, List.set_cons_zero, List.set_cons_succ])
                refine wpAnyH_take (i := 23) (v := ?_) rfl (by kernel_rfl) (by kernel_rfl) (by kernel_rfl) (fun _ _ _ h => h) (Or.inl ⟨by rfl, ?hy25⟩) (by assumption) ?rs25
                case hy25 => (intro w hSw; (try dsimp only at hSw); go_simp; try (with_reducible rfl))
                (try simp only [Act.put, List.setIfInBounds_toArray, List.set_cons_zero, List.set_cons_succ])
                refine wpAnyH_ready (rs := [25]) (by kernel_rfl) (by simp) ?_
                refine AllReadyH.cons rfl (fun K hK => ?_) ?_
                · go_simp
                  refine hK.out _ _ (by exact (HX.out _ (bdrew (balloc (balloc (Below.refl _ _) _) _)))) (fun hHeld => ?_)
                  clear hK K
                  (try simp only [Act.put, List.setIfInBounds_toArray, List.set_cons_zero, List.set_cons_succ])
                  refine wpAnyH_done (by kernel_rfl) ?_ _
                  go_wp2_with fail
                  go_meet
                  exact ⟨wr.heap.size, rfl, gB.drew, bdrew (balloc (balloc (Below.refl _ _) _) _), Nat.le_refl _⟩
                exact AllReadyH.nil
              exact AllReadyH.nil
            exact AllReadyH.nil
          exact AllReadyH.nil
        case rest =>
          obtain ⟨w2, rfl⟩ : ∃ w2 : World, w2 = wc := ⟨_, rfl⟩
          obtain ⟨g, rfl, gI, hb2, hgw⟩ := hcut
          have hgl := gI.lt
          obtain ⟨D, hD⟩ : ∃ D : Bool, D = decide (1 < c ∧ pk a2 4 = 0) := ⟨_, rfl⟩
          have HD := hide hD
          clear hD
          go_upto_region 8 with (fail)
          go_cut [61] (fun v wx => v = .bool D ∧ wx = w2)
          case first =>
            by_cases hcc : 1 < c
            · obtain ⟨_, _, z2⟩ := HC.out w2 (bthen hb hb2)
              generalize hp5 : pk a2 4 = p5 at *
              have HP5 := hide hp5
              clear hp5
              by_cases hq : p5 = 0
              · have hp0 : (p5 == 0) = true := by simpa using hq
                go_wp2_with (go_at_call 36; refine (c_rpickv HP5.out _ o5 o6 (by omega) (by omega)).mono ?_; rintro e w1 ⟨rfl, rfl⟩)
                go_meet
                exact ⟨by rw [HD.out]; simp [hcc, hq], rfl⟩
              · have hp0 : (p5 == 0) = false := by simpa using hq
                go_wp2_with (go_at_call 36; refine (c_rpickv HP5.out _ o5 o6 (by omega) (by omega)).mono ?_; rintro e w1 ⟨rfl, rfl⟩)
                go_meet
                exact ⟨by rw [HD.out]; simp [hq], rfl⟩
            · go_wp2_with fail
              go_meet
              exact ⟨by rw [HD.out, decide_eq_false (fun h => by have := h.1; omega)], rfl⟩
          case rest =>
            obtain ⟨rfl, rfl⟩ := hcut
            obtain ⟨w2, rfl⟩ : ∃ w2 : World, w2 = wc := ⟨_, rfl⟩
            go_upto_if 61 with (fail)
            go_cut [8] (fun v wx => GvCut wr (gvI c e (a0, a1, a2)) v wx)
            case first =>
              cases D with
              | true =>
                have hq : 1 < c ∧ pk a2 4 = 0 := by have := HD.out; simpa using this.symm
                have hc3 : 1 < c := hq.1
                have r5 := pk_range a1 (c - 1) (by omega)
                have hgv : gvI c e (a0, a1, a2) = ⟨e, 2, p1, p2, ⟨#[]⟩, 1 + pk a1 (c - 1)⟩ := by
                  unfold gvI
                  rw [if_pos hq, ← HP.out.2.1, ← HP.out.2.2.1]
                have HGV := hide hgv
                generalize hp5 : pk a1 (c - 1) = p5 at *
                have HP5 := hide hp5
                have hS : ∀ W, Below w2.heap.size w2 W → (W.cell? ⟨b, off + k * 3 + 1, none⟩ = some (.int .i64 a1) ∧ W.cell? ⟨g, 2, none⟩ = some (.int .i64 p1) ∧ W.cell? ⟨g, 3, none⟩ = some (.int .i64 p2)) ∧ Below w2.heap.size w2 W := fun W h =>
                  ⟨⟨(HC.out W (bthen (bthen hb hb2) h)).2.1, (gI.below h hgl).cell 2, (gI.below h hgl).cell 3⟩, h⟩
                have HS := hide hS
                have HGI := hide gI
                clear hgv hq hp5 hS gI HD
                have e1 : IntKind.i64.wrap (c - 1) = c - 1 := IntWalk.i64_in _ (by omega)
                have e2 : IntKind.i64.wrap (1 + p5) = 1 + p5 := IntWalk.i64_in _ (by omega)
                have u0 := HGI.out.free 0
                have u1 := HGI.out.free 1
                have u2 := HGI.out.free 2
                have u3 := HGI.out.free 3
                have u4 := HGI.out.free 4
                have u5 := HGI.out.free 5
                go_wp2_with fail
                have hgw' : w.heap.size ≤ g := Nat.le_trans hbs hgw
                have gF := ((((((HGI.out.set 0 (.int .i64 e)).set 1 (.int .i64 2)).set 2 (.int .i64 p1)).set 3 (.int .i64 p2)).set 4 (.string ⟨#[]⟩)).set 5 (.int .i64 (1 + p5))).drew
                have hF := HC.out _ (bdrew (bset (bset (bset (bset (bset (bset (bthen hb hb2) (p := ⟨g, 0, none⟩) hgw' (.int .i64 e)) (p := ⟨g, 1, none⟩) hgw' (.int .i64 2)) (p := ⟨g, 2, none⟩) hgw' (.int .i64 p1)) (p := ⟨g, 3, none⟩) hgw' (.int .i64 p2)) (p := ⟨g, 4, none⟩) hgw' (.string ⟨#[]⟩)) (p := ⟨g, 5, none⟩) hgw' (.int .i64 (1 + p5))))
                have HF := hide (And.intro gF hF)
                obtain ⟨y0, y1, y2, y3, y4, y5⟩ := HGI.out.allI
                clear gF hF
                refine wp_region_held_drew (S := fun W => W.cell? ⟨b, off + k * 3 + 1, none⟩ = some (.int .i64 a1) ∧ W.cell? ⟨g, 2, none⟩ = some (.int .i64 p1) ∧ W.cell? ⟨g, 3, none⟩ = some (.int .i64 p2)) (by kernel_rfl) (HS.out _ (bdrew (Below.refl _ _))).1 (fun hHeld => ?_)
                refine wpAnyH_take (i := 0) (v := ?_) rfl (by kernel_rfl) (by kernel_rfl) (by kernel_rfl) (fun _ _ _ h => h) (Or.inl ⟨by rfl, ?hy26⟩) (by assumption) ?rs26
                case hy26 => (intro w hSw; (try dsimp only at hSw); go_simp; try (with_reducible rfl))
                (try simp only [Act.put, List.setIfInBounds_toArray, List.set_cons_zero, List.set_cons_succ])
                refine wpAnyH_take (i := 1) (v := ?_) rfl (by kernel_rfl) (by kernel_rfl) (by kernel_rfl) (fun _ _ _ h => h) (Or.inl ⟨by rfl, ?hy27⟩) (by assumption) ?rs27
                case hy27 => (intro w hSw; (try dsimp only at hSw); go_simp; try (with_reducible rfl))
                (try simp only [Act.put, List.setIfInBounds_toArray, List.set_cons_zero, List.set_cons_succ])
                refine wpAnyH_take (i := 2) (v := ?_) rfl (by kernel_rfl) (by kernel_rfl) (by kernel_rfl) (fun _ _ _ h => h) (Or.inl ⟨by rfl, ?hy28⟩) (by assumption) ?rs28
                case hy28 => (intro w hSw; (try dsimp only at hSw); go_simp; try (with_reducible rfl))
                (try simp only [Act.put, List.setIfInBounds_toArray, List.set_cons_zero, List.set_cons_succ])
                refine wpAnyH_take (i := 3) (v := ?_) rfl (by kernel_rfl) (by kernel_rfl) (by kernel_rfl) (fun _ _ _ h => h) (Or.inl ⟨by rfl, ?hy29⟩) (by assumption) ?rs29
                case hy29 => (intro w hSw; (try dsimp only at hSw); go_simp; try (with_reducible rfl))
                (try simp only [Act.put, List.setIfInBounds_toArray, List.set_cons_zero, List.set_cons_succ])
                refine wpAnyH_take (i := 4) (v := ?_) rfl (by kernel_rfl) (by kernel_rfl) (by kernel_rfl) (fun _ _ _ h => h) (Or.inl ⟨by rfl, ?hy30⟩) (by assumption) ?rs30
                case hy30 => (intro w hSw; (try dsimp only at hSw); go_simp; try (with_reducible rfl))
                (try simp only [Act.put, List.setIfInBounds_toArray, List.set_cons_zero, List.set_cons_succ])
                refine wpAnyH_take (i := 5) (v := ?_) rfl (by kernel_rfl) (by kernel_rfl) (by kernel_rfl) (fun _ _ _ h => h) (Or.inl ⟨by rfl, ?hy31⟩) (by assumption) ?rs31
                case hy31 => (intro w hSw; (try dsimp only at hSw); go_simp; try (with_reducible rfl))
                (try simp only [Act.put, List.setIfInBounds_toArray, List.set_cons_zero, List.set_cons_succ])
                refine wpAnyH_take (i := 6) (v := ?_) rfl (by kernel_rfl) (by kernel_rfl) (by kernel_rfl) (fun _ _ _ h => h) (Or.inl ⟨by rfl, ?hy32⟩) (by assumption) ?rs32
                case hy32 => (intro w hSw; (try dsimp only at hSw); go_simp; try (with_reducible rfl))
                (try simp only [Act.put, List.setIfInBounds_toArray, List.set_cons_zero, List.set_cons_succ])
                refine wpAnyH_take (i := 7) (v := ?_) rfl (by kernel_rfl) (by kernel_rfl) (by kernel_rfl) (fun _ _ _ h => h) (Or.inl ⟨by rfl, ?hy33⟩) (by assumption) ?rs33
                case hy33 => (intro w hSw; (try dsimp only at hSw); go_simp; try (with_reducible rfl))
                (try simp only [Act.put, List.setIfInBounds_toArray, List.set_cons_zero, List.set_cons_succ])
                refine wpAnyH_take (i := 8) (v := ?_) rfl (by kernel_rfl) (by kernel_rfl) (by kernel_rfl) (fun _ _ _ h => h) (Or.inl ⟨by rfl, ?hy34⟩) (by assumption) ?rs34
                case hy34 => (intro w hSw; (try dsimp only at hSw); go_simp; try (with_reducible rfl))
                (try simp only [Act.put, List.setIfInBounds_toArray, List.set_cons_zero, List.set_cons_succ])
                refine wpAnyH_take (i := 9) (v := ?_) rfl (by kernel_rfl) (by kernel_rfl) (by kernel_rfl) (fun _ _ _ h => h) (Or.inl ⟨by rfl, ?hy35⟩) (by assumption) ?rs35
                case hy35 => (intro w hSw; (try dsimp only at hSw); go_simp; try (with_reducible rfl))
                (try simp only [Act.put, List.setIfInBounds_toArray, List.set_cons_zero, List.set_cons_succ])
                refine wpAnyH_call (i := 10) rfl (by kernel_rfl) (by kernel_rfl) (by kernel_rfl) (fun _ _ _ h => h) (by rfl) ?he36 (fun w hSw => (c_rpickv HP5.out _ o3 o4 (by omega) (by omega))) (by assumption) ?rs36
                case he36 => (intro w hSw; (try dsimp only at hSw); go_simp)
                (try simp only [Act.put, List.setIfInBounds_toArray, List.set_cons_zero, List.set_cons_succ])
                refine wpAnyH_take (i := 11) (v := ?_) rfl (by kernel_rfl) (by kernel_rfl) (by kernel_rfl) (fun _ _ _ h => h) (Or.inl ⟨by rfl, ?hy37⟩) (by assumption) ?rs37
                case hy37 => (intro w hSw; (try dsimp only at hSw); go_simp; try (with_reducible rfl))
                (try simp only [Act.put, List.setIfInBounds_toArray, List.set_cons_zero, List.set_cons_succ])
                refine wpAnyH_take (i := 12) (v := ?_) rfl (by kernel_rfl) (by kernel_rfl) (by kernel_rfl) (fun _ _ _ h => h) (Or.inl ⟨by rfl, ?hy38⟩) (by assumption) ?rs38
                case hy38 => (intro w hSw; (try dsimp only at hSw); go_simp; try (with_reducible rfl))
                (try simp only [Act.put, List.setIfInBounds_toArray, List.set_cons_zero, List.set_cons_succ])
                refine wpAnyH_ready (rs := [13]) (by kernel_rfl) (by simp) ?_
                refine AllReadyH.cons rfl (fun K hK => ?_) ?_
                · go_simp
                  refine hK.out _ _ (by exact ⟨HF.out.2.2.1, HF.out.1.cell 2, HF.out.1.cell 3⟩) (fun hHeld => ?_)
                  clear hK K
                  (try simp only [Act.put, List.setIfInBounds_toArray, List.set_cons_zero, List.set_cons_succ])
                  refine wpAnyH_done (by kernel_rfl) ?_ _
                  go_wp2_with fail
                  go_meet
                  exact ⟨g, rfl, by rw [HGV.out]; exact HF.out.1, bdrew (bset (bset (bset (bset (bset (bset hb2 (p := ⟨g, 0, none⟩) hgw (.int .i64 e)) (p := ⟨g, 1, none⟩) hgw (.int .i64 2)) (p := ⟨g, 2, none⟩) hgw (.int .i64 p1)) (p := ⟨g, 3, none⟩) hgw (.int .i64 p2)) (p := ⟨g, 4, none⟩) hgw (.string ⟨#[]⟩)) (p := ⟨g, 5, none⟩) hgw (.int .i64 (1 + p5))), hgw⟩
                exact AllReadyH.nil
              | false =>
                have hq : ¬ (1 < c ∧ pk a2 4 = 0) := by have := HD.out; exact fun h => by rw [decide_eq_true h] at this; cases this
                have hgv : gvI c e (a0, a1, a2) = ⟨e, 1, p1, p2, tx, 0⟩ := by
                  unfold gvI
                  rw [if_neg hq, HTx.out.symm, ← HP.out.2.1, ← HP.out.2.2.1, ← HP.out.2.2.2]
                have HGV := hide hgv
                clear hgv hq
                go_wp2_with fail
                go_meet
                exact ⟨g, rfl, by rw [HGV.out]; exact gI, hb2, hgw⟩
            case rest =>
              obtain ⟨w3, rfl⟩ : ∃ w3 : World, w3 = wc := ⟨_, rfl⟩
              obtain ⟨g3, rfl, gI3, hb4, hgw3⟩ := hcut
              have hown3 := own_bel hown hb4
              have hb5 := bthen hb hb4
              clear gI hgl hb2 hgw HD HP HTx hgw3
              generalize gvI c e (a0, a1, a2) = s at *
              obtain ⟨z0, z1, z2, z3, z4, z5⟩ := gI3.allI
              have hgl3 := gI3.lt
              have gA : SlR (w3.alloc (.cells (cI s).toArray 36)) _ 6 (some ⟨w3.heap.size, 0, none⟩) 1 (cI s) := slr_new _ _ rfl rfl
              have HV := hide hown3
              clear hown3 hown gI3
              go_wp2_with (at_builtin; refine wpList_append_sl (size := 6) rfl _ _ 24 rfl w.heap.size 36 i0 zV 56 Try.underlying24 hi hz0 hz1 hz2 rfl (by decide) _ P.length (P.flatMap cI) rfl (HV.out.alloc _) 1 1 (cI s) rfl gA (Below.refl _ _) (fun u hu => oneI [s] u (by simpa using hu)) (by unfold maxLen; omega) (by omega) (by have := hb5.size; simp; omega) ?_; intro v6 w6 ho6 hg6 hor6)
              go_roundw
              case rel =>
                obtain ⟨q1, q2⟩ := HSn.out
                refine ⟨k + 1, by omega, by omega, by go_num, by rw [q1], ?_, (balloc hb5 _).grown hg6 (by have := hb5.size; simp; omega) (fun g e => (own_lt HV.out g e).1)⟩
                rw [q2, List.length_append, flatI_snoc]
                exact ho6
              case measure => simp [intOf]; omega
      · obtain rfl : k = 5 := by omega
        have HV := hide hown
        clear hr hok hown hl
        go_wp2_with fail
        go_ret
        exact ⟨_, rfl, HV.out, hb⟩
    · have htk : l.take k = l.take 5 := by rw [List.take_of_length_le (by omega), List.take_of_length_le (by omega)]
      rw [htk] at hown
      have HV := hide hown
      obtain rfl : k = n := by omega
      clear hr hok hown hl htk
      go_wp2_with fail
      go_ret
      exact ⟨_, rfl, HV.out, hb⟩
end Go.Proofs.Ytncdombfhcfobaa
