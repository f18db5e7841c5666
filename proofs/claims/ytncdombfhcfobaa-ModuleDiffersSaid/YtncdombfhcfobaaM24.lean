/- Contract: the reference's Instance. -/
import Derived.Test.YtncdombfhcfobaaM23
import Derived.Test.YtncdombfhcfobaaMC
namespace Go.Proofs.Ytncdombfhcfobaa
open Go.RowKit
theorem Try.infoA3 : (Try.prog.info? 80).map (fun i => (i.zero, i.size, i.bytes)) = some (some (.agg #[.int .i64 0, .int .i64 0, .int .i64 0]), 3, 24) := by kernel_rfl
theorem flat_take {α : Type} (enc : α → List Value) (m : Nat) (hm : ∀ a, (enc a).length = m) : ∀ (l : List α) (k : Nat), (l.flatMap enc).take (k * m) = (l.take k).flatMap enc
  | [], k => by simp
  | a :: l, 0 => by simp
  | a :: l, k + 1 => by
    simp only [List.flatMap_cons, List.take_succ_cons]
    rw [← flat_take enc m hm l k, List.take_append, hm, List.take_of_length_le (by rw [hm, Nat.succ_mul]; omega)]
    congr 2
    rw [Nat.succ_mul]; omega
def shB (g : Int) (k : Nat) : Bool := (pk g 4096 / 2 ^ k).tmod 2 == 1
def goneN (ch : List It) (g : Int) : Nat → List Int
  | 0 => []
  | k + 1 => if (getI ch (k : Int)).isNone && shB g k then goneN ch g k ++ [(k : Int)] else goneN ch g k
theorem goneN_len (ch : List It) (g : Int) : ∀ k, (goneN ch g k).length ≤ k
  | 0 => Nat.le_refl _
  | k + 1 => by have := goneN_len ch g k; unfold goneN; split <;> simp <;> omega
theorem own_neX {W : World} {b n k bc : Nat} {e t : TypeId} {v : Value} {xs us : List Value} (h : W.ownsRow b e k v n xs) (hb : Blk W bc t us) (ht : e ≠ t := by decide) : v.ownBlock ≠ some bc := by
  intro he
  rcases h.2 with ⟨rfl, _⟩ | ⟨g', _, cur', rfl, _, p3, _⟩
  · cases he
  · simp only [Value.ownBlock, Option.some.injEq] at he
    subst he
    unfold Blk at hb
    rw [hb] at p3
    simp only [Option.some.injEq, Obj.cells.injEq] at p3
    exact ht p3.2.1.symm
def zCR : CR := ⟨0, 0, 0, 0, none, 0, 0, none, 0, 0⟩
def instM (ms : List Mo) (which : Int) : Int := (ms.getD (pk which ms.length).toNat ⟨0, []⟩).id
def instC (ms : List Mo) (which : Int) (x : List I3) (g : Int) : Cp :=
  ⟨1 + 1000 * pk which 40 + pk g 900, instM ms which, pk which 2000, pk g 2000, givenL (instM ms which) (x.take 3), goneN (givenL (instM ms which) (x.take 3)) g 12⟩
def InstPost (ms : List Mo) (which : Int) (x : List I3) (g : Int) (w : World) (e : Ending) (w' : World) : Prop :=
  Below w.heap.size w w' ∧ (ms = [] ∧ e = .returned (.tuple #[crV zCR, .bool false]) ∨ ms ≠ [] ∧ ∃ r : CR, e = .returned (.tuple #[crV r, .bool true]) ∧ CpR w' r (instC ms which x g))
def InstRel (w : World) (code mod x y : Int) (A3 : Option Addr) (c3 : Nat) (G : List It) (L : List Int) (wr : World) : Prop :=
  ∃ A5 c5, Blk wr (w.heap.size + 1) 45 (cC ⟨code, mod, x, y, A3, G.length, c3, A5, L.length, c5⟩) ∧ wr.ownsRow (w.heap.size + 1) 3 1 (.slice A5 L.length c5) L.length (L.flatMap cN) ∧
    wr.ownsRow (w.heap.size + 1) 36 6 (.slice A3 G.length c3) G.length (G.flatMap cI) ∧ Blk wr w.heap.size 45 (cC zCR) ∧ Below w.heap.size w wr
set_option linter.unusedSimpArgs false in
set_option maxRecDepth 100000 in
set_option maxHeartbeats 4000000 in
theorem c_Instance (A : Option Addr) (N cc : Nat) (rows : List MR) (ms : List Mo) (which : Int) (B : Option Addr) (n d : Nat) (x : List I3) (g : Int) (w : World) (hN : N ≤ 1000000) (hr : SlR w w.heap.size 2 A N (rows.flatMap cM)) (hm : Mods w rows ms) (hid : ∀ m ∈ ms, okN m.id)
    (hn : n ≤ d) (hd : d ≤ 9223372036854775807) (hx : SlR w w.heap.size 3 B n (x.flatMap c3)) (hok : ∀ a ∈ x, ok3 a) (hw : okN which) (hg : okN g) :
    Calls Try.prog 16 #[.slice A N cc, .int .i64 which, .slice B n d, .int .i64 g] w (InstPost ms which x g w) := by
  obtain ⟨i1, hi1, hy0, hy1, hy2⟩ := info_parts Try.infoInt
  obtain ⟨iA, hiA, -, -, -⟩ := info_parts Try.infoA3
  have hl := hr.lenm
  have hml : ms.length = N := by rw [← hm.1]; exact hl
  have gZ : Blk (w.alloc (.cells #[.int .i64 0, .int .i64 0, .int .i64 0, .int .i64 0, .slice none 0 0, .slice none 0 0] 45)) w.heap.size 45 (cC zCR) := Blk.new w 45 (cC zCR)
  have hb0 := balloc (Below.refl w.heap.size w) (.cells #[.int .i64 0, .int .i64 0, .int .i64 0, .int .i64 0, .slice none 0 0, .slice none 0 0] 45)
  by_cases hN0 : N = 0
  · subst hN0
    have hms : ms = [] := List.eq_nil_of_length_eq_zero hml
    obtain ⟨y0, y1, y2, y3, y4, y5⟩ := gZ.allC
    have HM := hide hms
    clear hms hml hl hr hm
    go_enter Try.func16, Try.ntmps16
    go_wp2_with fail
    refine bodyPost_ret (v := .tuple #[.agg #[.int .i64 0, .int .i64 0, .int .i64 0, .int .i64 0, .slice none 0 0, .slice none 0 0], .bool false]) (by simp [results, Try.results16, go_sem]) rfl ?_
    exact ⟨hb0, .inl ⟨HM.out, rfl⟩⟩
  · have hNi : ((N : Int) == 0) = false := by simpa using hN0
    have hN1 : (1 : Int) ≤ (N : Int) := by omega
    obtain ⟨j, hj⟩ : ∃ j : Nat, pk which (N : Int) = j := ⟨(pk which (N : Int)).toNat, by have := pk_range which N hN1; omega⟩
    have hjN : j < N := by have := pk_range which N hN1; omega
    have hjr : j < rows.length := by omega
    have hjm : j < ms.length := by omega
    obtain ⟨b, off, hAe, hbb, -⟩ := hr.atM (Below.refl _ _) hjr
    have hcell := fun (W : World) (h : Below w.heap.size w W) => (show W.cell? ⟨b, off + j * 2, none⟩ = some (.int .i64 rows[j].id) by
      obtain ⟨b', off', h1, h2, h3, _⟩ := hr.atM h hjr
      rw [hAe] at h1
      cases h1
      exact h3)
    have hmi : instM ms which = rows[j].id := by
      unfold instM
      rw [hml, hj, (hm.2 j hjr hjm).1]
      simp [List.getD_eq_getElem?_getD, List.getElem?_eq_getElem hjm]
    have hmo : okN rows[j].id := by rw [(hm.2 j hjr hjm).1]; exact hid _ (List.getElem_mem hjm)
    have hne : ms ≠ [] := fun h => by rw [h] at hml; exact hN0 hml.symm
    rw [hAe] at *
    generalize rows[j].id = mid at *
    clear hAe hr hm hid hml hl hjr hjm
    obtain ⟨hw1, hw2⟩ := hw
    obtain ⟨hg1, hg2⟩ := hg
    have r1 := pk_range which 40 (by omega)
    have r2 := pk_range g 900 (by omega)
    have r3 := pk_range which 2000 (by omega)
    have r4 := pk_range g 2000 (by omega)
    have HC := hide hcell
    have HI := hide (And.intro hmi (And.intro hmo hne))
    clear hcell hmi hmo hne
    generalize hp1 : pk which 40 = p1 at *
    generalize hp2 : pk g 900 = p2 at *
    generalize hp3 : pk which 2000 = p3 at *
    generalize hp4 : pk g 2000 = p4 at *
    have HP := hide (And.intro hp1 (And.intro hp2 (And.intro hp3 (And.intro hp4 hj))))
    clear hp1 hp2 hp3 hp4 hj
    have e1 : IntKind.i64.wrap (1000 * p1) = 1000 * p1 := IntWalk.i64_in _ (by omega)
    have e2 : IntKind.i64.wrap (1 + 1000 * p1) = 1 + 1000 * p1 := IntWalk.i64_in _ (by omega)
    have e3 : IntKind.i64.wrap (1 + 1000 * p1 + p2) = 1 + 1000 * p1 + p2 := IntWalk.i64_in _ (by omega)
    have hji : (j : Int) < (N : Int) := by omega
    have hj0 : (0 : Int) ≤ (j : Int) := by omega
    go_enter Try.func16, Try.ntmps16
    go_wp2_with fail
    generalize hw0 : w.alloc (.cells #[.int .i64 0, .int .i64 0, .int .i64 0, .int .i64 0, .slice none 0 0, .slice none 0 0] 45) = w0 at *
    have hz0 : w0.heap.size = w.heap.size + 1 := by rw [← hw0]; simp
    clear hw0
    have hb1 := balloc hb0 (.cells #[.int .i64 (1 + 1000 * p1 + p2), .int .i64 mid, .int .i64 p3, .int .i64 p4, .slice none 0 0, .slice none 0 0] 45)
    have hbZ := balloc hb0 (.cells #[.int .i64 0, .int .i64 0, .int .i64 0, .int .i64 0, .slice none 0 0, .slice none 0 0] 45)
    refine wp_region_held_drew (S := fun W => W.cell? ⟨b, off + j * 2, none⟩ = some (.int .i64 mid)) (by kernel_rfl) (HC.out _ (bdrew hb0)) (fun hHeld => ?_)
    refine wpAnyH_take (i := 0) (v := ?_) rfl (by kernel_rfl) (by kernel_rfl) (by kernel_rfl) (fun _ _ _ h => h) (Or.inl ⟨by rfl, ?hy1⟩) (by assumption) ?rs1
    case hy1 => (intro w hSw; (try dsimp only at hSw); go_simp; try (with_reducible rfl))
    (try simp only [Act.put, List.setIfInBounds_toArray, List.set_cons_zero, List.set_cons_succ, List.getElem_toArray, List.getElem_cons_zero, List.getElem_cons_succ])
    refine wpAnyH_call (i := 1) rfl (by kernel_rfl) (by kernel_rfl) (by kernel_rfl) (fun _ _ _ h => h) (by rfl) ?he2 (fun w hSw => (c_rpickv HP.out.1 _ hw1 hw2 (by omega) (by omega))) (by assumption) ?rs2
    case he2 => (intro w hSw; (try dsimp only at hSw); go_simp)
    (try simp only [Act.put, List.setIfInBounds_toArray, List.set_cons_zero, List.set_cons_succ, List.getElem_toArray, List.getElem_cons_zero, List.getElem_cons_succ])
    refine wpAnyH_take (i := 2) (v := ?_) rfl (by kernel_rfl) (by kernel_rfl) (by kernel_rfl) (fun _ _ _ h => h) (Or.inl ⟨by rfl, ?hy3⟩) (by assumption) ?rs3
    case hy3 => (intro w hSw; (try dsimp only at hSw); go_simp; try (with_reducible rfl))
    (try simp only [Act.put, List.setIfInBounds_toArray, List.set_cons_zero, List.set_cons_succ, List.getElem_toArray, List.getElem_cons_zero, List.getElem_cons_succ])
    refine wpAnyH_take (i := 3) (v := ?_) rfl (by kernel_rfl) (by kernel_rfl) (by kernel_rfl) (fun _ _ _ h => h) (Or.inl ⟨by rfl, ?hy4⟩) (by assumption) ?rs4
    case hy4 => (intro w hSw; (try dsimp only at hSw); go_simp; try (with_reducible rfl))
    (try simp only [Act.put, List.setIfInBounds_toArray, List.set_cons_zero, List.set_cons_succ, List.getElem_toArray, List.getElem_cons_zero, List.getElem_cons_succ])
    refine wpAnyH_take (i := 4) (v := ?_) rfl (by kernel_rfl) (by kernel_rfl) (by kernel_rfl) (fun _ _ _ h => h) (Or.inl ⟨by rfl, ?hy5⟩) (by assumption) ?rs5
    case hy5 => (intro w hSw; (try dsimp only at hSw); go_simp; try (with_reducible rfl))
    (try simp only [Act.put, List.setIfInBounds_toArray, List.set_cons_zero, List.set_cons_succ, List.getElem_toArray, List.getElem_cons_zero, List.getElem_cons_succ])
    refine wpAnyH_call (i := 5) rfl (by kernel_rfl) (by kernel_rfl) (by kernel_rfl) (fun _ _ _ h => h) (by rfl) ?he6 (fun w hSw => (c_rpickv HP.out.2.1 _ hg1 hg2 (by omega) (by omega))) (by assumption) ?rs6
    case he6 => (intro w hSw; (try dsimp only at hSw); go_simp)
    (try simp only [Act.put, List.setIfInBounds_toArray, List.set_cons_zero, List.set_cons_succ, List.getElem_toArray, List.getElem_cons_zero, List.getElem_cons_succ])
    refine wpAnyH_take (i := 6) (v := ?_) rfl (by kernel_rfl) (by kernel_rfl) (by kernel_rfl) (fun _ _ _ h => h) (Or.inl ⟨by rfl, ?hy7⟩) (by assumption) ?rs7
    case hy7 => (intro w hSw; (try dsimp only at hSw); go_simp; try (with_reducible rfl))
    (try simp only [Act.put, List.setIfInBounds_toArray, List.set_cons_zero, List.set_cons_succ, List.getElem_toArray, List.getElem_cons_zero, List.getElem_cons_succ])
    refine wpAnyH_take (i := 7) (v := ?_) rfl (by kernel_rfl) (by kernel_rfl) (by kernel_rfl) (fun _ _ _ h => h) (Or.inl ⟨by rfl, ?hy8⟩) (by assumption) ?rs8
    case hy8 => (intro w hSw; (try dsimp only at hSw); go_simp; try (with_reducible rfl))
    (try simp only [Act.put, List.setIfInBounds_toArray, List.set_cons_zero, List.set_cons_succ, List.getElem_toArray, List.getElem_cons_zero, List.getElem_cons_succ])
    refine wpAnyH_take (i := 8) (v := ?_) rfl (by kernel_rfl) (by kernel_rfl) (by kernel_rfl) (fun _ _ _ h => h) (Or.inl ⟨by rfl, ?hy9⟩) (by assumption) ?rs9
    case hy9 => (intro w hSw; (try dsimp only at hSw); go_simp; try (with_reducible rfl))
    (try simp only [Act.put, List.setIfInBounds_toArray, List.set_cons_zero, List.set_cons_succ, List.getElem_toArray, List.getElem_cons_zero, List.getElem_cons_succ])
    refine wpAnyH_take (i := 9) (v := ?_) rfl (by kernel_rfl) (by kernel_rfl) (by kernel_rfl) (fun _ _ _ h => h) (Or.inl ⟨by rfl, ?hy10⟩) (by assumption) ?rs10
    case hy10 => (intro w hSw; (try dsimp only at hSw); go_simp; try (with_reducible rfl))
    (try simp only [Act.put, List.setIfInBounds_toArray, List.set_cons_zero, List.set_cons_succ, List.getElem_toArray, List.getElem_cons_zero, List.getElem_cons_succ])
    refine wpAnyH_take (i := 10) (v := ?_) rfl (by kernel_rfl) (by kernel_rfl) (by kernel_rfl) (fun _ _ _ h => h) (Or.inl ⟨by rfl, ?hy11⟩) (by assumption) ?rs11
    case hy11 => (intro w hSw; (try dsimp only at hSw); go_simp; try (with_reducible rfl))
    (try simp only [Act.put, List.setIfInBounds_toArray, List.set_cons_zero, List.set_cons_succ, List.getElem_toArray, List.getElem_cons_zero, List.getElem_cons_succ])
    refine wpAnyH_call (i := 11) rfl (by kernel_rfl) (by kernel_rfl) (by kernel_rfl) (fun _ _ _ h => h) (by rfl) ?he12 (fun w hSw => (c_rpickv HP.out.2.2.2.2 _ hw1 hw2 (by omega) (by omega))) (by assumption) ?rs12
    case he12 => (intro w hSw; (try dsimp only at hSw); go_simp)
    (try simp only [Act.put, List.setIfInBounds_toArray, List.set_cons_zero, List.set_cons_succ, List.getElem_toArray, List.getElem_cons_zero, List.getElem_cons_succ])
    refine wpAnyH_take (i := 12) (v := ?_) rfl (by kernel_rfl) (by kernel_rfl) (by kernel_rfl) (fun _ _ _ h => h) (Or.inl ⟨by rfl, ?hy13⟩) (by assumption) ?rs13
    case hy13 => (intro w hSw; (try dsimp only at hSw); go_simp; try (with_reducible rfl))
    (try simp only [Act.put, List.setIfInBounds_toArray, List.set_cons_zero, List.set_cons_succ, List.getElem_toArray, List.getElem_cons_zero, List.getElem_cons_succ])
    refine wpAnyH_take (i := 13) (v := ?_) rfl (by kernel_rfl) (by kernel_rfl) (by kernel_rfl) (fun _ _ _ h => h) (Or.inl ⟨by rfl, ?hy14⟩) (by assumption) ?rs14
    case hy14 => (intro w hSw; (try dsimp only at hSw); go_simp; try (with_reducible rfl))
    (try simp only [Act.put, List.setIfInBounds_toArray, List.set_cons_zero, List.set_cons_succ, List.getElem_toArray, List.getElem_cons_zero, List.getElem_cons_succ])
    refine wpAnyH_take (i := 14) (v := ?_) rfl (by kernel_rfl) (by kernel_rfl) (by kernel_rfl) (fun _ _ _ h => h) (Or.inl ⟨by rfl, ?hy15⟩) (by assumption) ?rs15
    case hy15 => (intro w hSw; (try dsimp only at hSw); go_simp; try (with_reducible rfl))
    (try simp only [Act.put, List.setIfInBounds_toArray, List.set_cons_zero, List.set_cons_succ, List.getElem_toArray, List.getElem_cons_zero, List.getElem_cons_succ])
    refine wpAnyH_take (i := 15) (v := ?_) rfl (by kernel_rfl) (by kernel_rfl) (by kernel_rfl) (fun _ _ _ h => h) (Or.inl ⟨by rfl, ?hy16⟩) (by assumption) ?rs16
    case hy16 => (intro w hSw; (try dsimp only at hSw); go_simp; try (with_reducible rfl))
    (try simp only [Act.put, List.setIfInBounds_toArray, List.set_cons_zero, List.set_cons_succ, List.getElem_toArray, List.getElem_cons_zero, List.getElem_cons_succ])
    refine wpAnyH_call (i := 16) rfl (by kernel_rfl) (by kernel_rfl) (by kernel_rfl) (fun _ _ _ h => h) (by rfl) ?he17 (fun w hSw => (c_rpickv HP.out.2.2.1 _ hw1 hw2 (by omega) (by omega))) (by assumption) ?rs17
    case he17 => (intro w hSw; (try dsimp only at hSw); go_simp)
    (try simp only [Act.put, List.setIfInBounds_toArray, List.set_cons_zero, List.set_cons_succ, List.getElem_toArray, List.getElem_cons_zero, List.getElem_cons_succ])
    refine wpAnyH_take (i := 17) (v := ?_) rfl (by kernel_rfl) (by kernel_rfl) (by kernel_rfl) (fun _ _ _ h => h) (Or.inl ⟨by rfl, ?hy18⟩) (by assumption) ?rs18
    case hy18 => (intro w hSw; (try dsimp only at hSw); go_simp; try (with_reducible rfl))
    (try simp only [Act.put, List.setIfInBounds_toArray, List.set_cons_zero, List.set_cons_succ, List.getElem_toArray, List.getElem_cons_zero, List.getElem_cons_succ])
    refine wpAnyH_call (i := 18) rfl (by kernel_rfl) (by kernel_rfl) (by kernel_rfl) (fun _ _ _ h => h) (by rfl) ?he19 (fun w hSw => (c_rpickv HP.out.2.2.2.1 _ hg1 hg2 (by omega) (by omega))) (by assumption) ?rs19
    case he19 => (intro w hSw; (try dsimp only at hSw); go_simp)
    (try simp only [Act.put, List.setIfInBounds_toArray, List.set_cons_zero, List.set_cons_succ, List.getElem_toArray, List.getElem_cons_zero, List.getElem_cons_succ])
    refine wpAnyH_take (i := 19) (v := ?_) rfl (by kernel_rfl) (by kernel_rfl) (by kernel_rfl) (fun _ _ _ h => h) (Or.inl ⟨by rfl, ?hy20⟩) (by assumption) ?rs20
    case hy20 => (intro w hSw; (try dsimp only at hSw); go_simp; try (with_reducible rfl))
    (try simp only [Act.put, List.setIfInBounds_toArray, List.set_cons_zero, List.set_cons_succ, List.getElem_toArray, List.getElem_cons_zero, List.getElem_cons_succ])
    refine wpAnyH_take (i := 20) (v := ?_) rfl (by kernel_rfl) (by kernel_rfl) (by kernel_rfl) (fun _ _ _ h => h) (Or.inl ⟨by rfl, ?hy21⟩) (by assumption) ?rs21
    case hy21 => (intro w hSw; (try dsimp only at hSw); go_simp; try (with_reducible rfl))
    (try simp only [Act.put, List.setIfInBounds_toArray, List.set_cons_zero, List.set_cons_succ, List.getElem_toArray, List.getElem_cons_zero, List.getElem_cons_succ])
    refine wpAnyH_ready (rs := [21]) (by kernel_rfl) (by simp) ?_
    refine AllReadyH.cons rfl (fun K hK => ?_) ?_
    · go_simp
      refine hK.out _ _ (by exact (HC.out _ (bdrew hbZ))) (fun hHeld => ?_)
      clear hK K
      (try simp only [Act.put, List.setIfInBounds_toArray, List.set_cons_zero, List.set_cons_succ, List.getElem_toArray, List.getElem_cons_zero, List.getElem_cons_succ])
      refine wpAnyH_ready (rs := [22]) (by kernel_rfl) (by simp) ?_
      refine AllReadyH.cons rfl (fun K hK => ?_) ?_
      · go_simp
        refine hK.out _ _ (by exact (HC.out _ (bdrew hb1))) (fun hHeld => ?_)
        clear hK K
        (try simp only [Act.put, List.setIfInBounds_toArray, List.set_cons_zero, List.set_cons_succ, List.getElem_toArray, List.getElem_cons_zero, List.getElem_cons_succ])
        refine wpAnyH_done (by kernel_rfl) ?_ _
        go_upto_region 4 with (fail)
        have gC : Blk (w0.alloc (.cells #[.int .i64 (1 + 1000 * p1 + p2), .int .i64 mid, .int .i64 p3, .int .i64 p4, .slice none 0 0, .slice none 0 0] 45)).drew (w.heap.size + 1) 45 (cC ⟨1 + 1000 * p1 + p2, mid, p3, p4, none, 0, 0, none, 0, 0⟩) := by
          have := (Blk.new w0 45 (cC ⟨1 + 1000 * p1 + p2, mid, p3, p4, none, 0, 0, none, 0, 0⟩)).drew
          rw [hz0] at this
          exact this
        have gZ1 := (gZ.alloc (.cells #[.int .i64 (1 + 1000 * p1 + p2), .int .i64 mid, .int .i64 p3, .int .i64 p4, .slice none 0 0, .slice none 0 0] 45)).drew
        have hb1d := bdrew hb1
        generalize hw1 : (w0.alloc (.cells #[.int .i64 (1 + 1000 * p1 + p2), .int .i64 mid, .int .i64 p3, .int .i64 p4, .slice none 0 0, .slice none 0 0] 45)).drew = w1 at *
        have hx1 := hx.to' hb1d
        have HG := hide (And.intro gC (And.intro gZ1 hw1))
        have HOK := hide hok
        clear gC gZ1 hw1 hok hb1 hbZ hHeld hb0 hx
        go_cut [] (fun wx => ∃ A3 k3, InstRel w (1 + 1000 * p1 + p2) mid p3 p4 A3 k3 (givenL mid (x.take 3)) [] wx)
        case first =>
          obtain ⟨m, hme⟩ : ∃ m : Nat, m = min n 3 := ⟨_, rfl⟩
          have hmn3 : m ≤ n := by omega
          have hs2 := hx1.upto hmn3
          rw [flat_take c3 3 (fun _ => rfl)] at hs2
          have hxt : x.take m = x.take 3 := by
            have hxl := hx1.len3
            rcases Nat.lt_or_ge n 3 with h | h
            · rw [List.take_of_length_le (by omega), List.take_of_length_le (by omega)]
            · rw [show m = 3 by omega]
          rw [hxt] at hs2
          have hmi : min (n : Int) 3 = (m : Int) := by omega
          have hm0 : (0 : Int) ≤ (m : Int) := by omega
          have hmd : (m : Int) ≤ (d : Int) := by omega
          have hmx : m ≤ 9223372036854775807 := by omega
          clear hxt hme
          have HS2 := hide hs2
          clear hs2 hx1
          refine wp_region_held_drew (S := fun W => W.cell? ⟨w.heap.size + 1, 1, none⟩ = some (.int .i64 mid)) (by kernel_rfl) ((HG.out.1.drew).cell 1) (fun hHeld => ?_)
          refine wpAnyH_take (i := 0) (v := ?_) rfl (by kernel_rfl) (by kernel_rfl) (by kernel_rfl) (fun _ _ _ h => h) (Or.inl ⟨by rfl, ?hy22⟩) (by assumption) ?rs22
          case hy22 => (intro w hSw; (try dsimp only at hSw); go_simp; try (with_reducible rfl))
          (try simp only [Act.put, List.setIfInBounds_toArray, List.set_cons_zero, List.set_cons_succ, List.getElem_toArray, List.getElem_cons_zero, List.getElem_cons_succ])
          refine wpAnyH_take (i := 1) (v := ?_) rfl (by kernel_rfl) (by kernel_rfl) (by kernel_rfl) (fun _ _ _ h => h) (Or.inl ⟨by rfl, ?hy23⟩) (by assumption) ?rs23
          case hy23 => (intro w hSw; (try dsimp only at hSw); go_simp; try (with_reducible rfl))
          (try simp only [Act.put, List.setIfInBounds_toArray, List.set_cons_zero, List.set_cons_succ, List.getElem_toArray, List.getElem_cons_zero, List.getElem_cons_succ])
          refine wpAnyH_take (i := 2) (v := ?_) rfl (by kernel_rfl) (by kernel_rfl) (by kernel_rfl) (fun _ _ _ h => h) (Or.inl ⟨by rfl, ?hy24⟩) (by assumption) ?rs24
          case hy24 => (intro w hSw; (try dsimp only at hSw); go_simp; try (with_reducible rfl))
          (try simp only [Act.put, List.setIfInBounds_toArray, List.set_cons_zero, List.set_cons_succ, List.getElem_toArray, List.getElem_cons_zero, List.getElem_cons_succ])
          refine wpAnyH_take (i := 3) (v := ?_) rfl (by kernel_rfl) (by kernel_rfl) (by kernel_rfl) (fun _ _ _ h => h) (Or.inl ⟨by rfl, ?hy25⟩) (by assumption) ?rs25
          case hy25 => (intro w hSw; (try dsimp only at hSw); go_simp; try (with_reducible rfl))
          (try simp only [Act.put, List.setIfInBounds_toArray, List.set_cons_zero, List.set_cons_succ, List.getElem_toArray, List.getElem_cons_zero, List.getElem_cons_succ])
          refine wpAnyH_take (i := 4) (v := ?_) rfl (by kernel_rfl) (by kernel_rfl) (by kernel_rfl) (fun _ _ _ h => h) (Or.inl ⟨by rfl, ?hy26⟩) (by assumption) ?rs26
          case hy26 => (intro w hSw; (try dsimp only at hSw); go_simp; try (with_reducible rfl))
          (try simp only [Act.put, List.setIfInBounds_toArray, List.set_cons_zero, List.set_cons_succ, List.getElem_toArray, List.getElem_cons_zero, List.getElem_cons_succ])
          refine wpAnyH_take (i := 5) (v := ?_) rfl (by kernel_rfl) (by kernel_rfl) (by kernel_rfl) (fun _ _ _ h => h) (Or.inl ⟨by rfl, ?hy27⟩) (by assumption) ?rs27
          case hy27 => (intro w hSw; (try dsimp only at hSw); go_simp; try (with_reducible rfl))
          (try simp only [Act.put, List.setIfInBounds_toArray, List.set_cons_zero, List.set_cons_succ, List.getElem_toArray, List.getElem_cons_zero, List.getElem_cons_succ])
          refine wpAnyH_take (i := 6) (v := ?_) rfl (by kernel_rfl) (by kernel_rfl) (by kernel_rfl) (fun _ _ _ h => h) (Or.inl ⟨by rfl, ?hy28⟩) (by assumption) ?rs28
          case hy28 => (intro w hSw; (try dsimp only at hSw); go_simp; try (with_reducible rfl))
          (try simp only [Act.put, List.setIfInBounds_toArray, List.set_cons_zero, List.set_cons_succ, List.getElem_toArray, List.getElem_cons_zero, List.getElem_cons_succ])
          refine wpAnyH_ready (rs := [7]) (by kernel_rfl) (by simp) ?_
          refine AllReadyH.cons rfl (fun K hK => ?_) ?_
          · go_simp
            refine (c_Given B m d (x.take 3) mid _ hmx (HS2.out.to' (bdrew (Below.refl _ _))) (fun a ha => HOK.out a (List.mem_of_mem_take ha)) HI.out.2.1).mono ?_
            rintro e w2 ⟨v2, rfl, hown2, hb2⟩
            obtain ⟨A3, k3, rfl, h31, h32, hs3⟩ := SlR.of_own hown2
            have hb21 : Below w1.heap.size w1 w2 := bthen (bdrew (Below.refl _ _)) hb2
            have gC2 := HG.out.1.below hb21 HG.out.1.lt
            obtain ⟨z0, z1, z2, z3, z4, z5⟩ := gC2.allC
            have u4 := gC2.free 4
            have hgl := gC2.lt
            have gC3 := gC2.set 4 (.slice A3 (givenL mid (x.take 3)).length k3)
            have HX := hide (And.intro hown2 (And.intro hb21 gC3))
            clear hown2 hb2 hb21 gC2 gC3 hs3
            refine hK.out _ _ (by exact z1) (fun hHeld => ?_)
            clear hK K
            (try simp only [Act.put, List.setIfInBounds_toArray, List.set_cons_zero, List.set_cons_succ, List.getElem_toArray, List.getElem_cons_zero, List.getElem_cons_succ])
            refine wpAnyH_take (i := 8) (v := ?_) rfl (by kernel_rfl) (by kernel_rfl) (by kernel_rfl) (fun _ _ _ h => h) (Or.inl ⟨by rfl, ?hy29⟩) (by assumption) ?rs29
            case hy29 => (intro w hSw; (try dsimp only at hSw); go_simp; try (with_reducible rfl))
            (try simp only [Act.put, List.setIfInBounds_toArray, List.set_cons_zero, List.set_cons_succ, List.getElem_toArray, List.getElem_cons_zero, List.getElem_cons_succ])
            refine wpAnyH_ready (rs := [9]) (by kernel_rfl) (by simp) ?_
            refine AllReadyH.cons rfl (fun K hK => ?_) ?_
            · go_simp
              refine hK.out _ _ (by exact (HX.out.2.2.cell 1)) (fun hHeld => ?_)
              clear hK K
              (try simp only [Act.put, List.setIfInBounds_toArray, List.set_cons_zero, List.set_cons_succ, List.getElem_toArray, List.getElem_cons_zero, List.getElem_cons_succ])
              refine wpAnyH_done (by kernel_rfl) ?_ _
              go_wp2_with fail
              go_meet
              obtain ⟨hown2, hb21, gC3⟩ := HX.out
              refine ⟨A3, k3, none, 0, gC3, World.ownsRow_nil _ _ _ _, own_base (own_set hown2 ⟨w.heap.size + 1, 4, none⟩ (by have := HG.out.1.lt; simpa using this) _) (by have := HG.out.1.lt; simp; omega), ((HG.out.2.1.below hb21 HG.out.2.1.lt).other (p := ⟨w.heap.size + 1, 4, none⟩) (by simp) _), bset (bthen hb1d hb21) (p := ⟨w.heap.size + 1, 4, none⟩) (by simp) _⟩
            exact AllReadyH.nil
          exact AllReadyH.nil
        case rest =>
          obtain ⟨w3, rfl⟩ : ∃ w3 : World, w3 = wc := ⟨_, rfl⟩
          obtain ⟨A3, k3, hir⟩ := hcut
          obtain ⟨G, hGe⟩ : ∃ G, G = givenL mid (x.take 3) := ⟨_, rfl⟩
          rw [← hGe] at hir
          have HGe := hide hGe
          have HIR := hide hir
          clear hGe hir hb1d
          go_wp2_with fail
          go_loopw [11] (fun i wr => ∃ k : Nat, k ≤ 12 ∧ i = .int .i64 k ∧ InstRel w (1 + 1000 * p1 + p2) mid p3 p4 A3 k3 G (goneN G g k) wr) (fun i _ => 12 - (intOf i).toNat)
          case atStart => exact ⟨0, by omega, rfl, HIR.out⟩
          case round =>
            obtain ⟨k, hk, rfl, A5, k5, gC, ho5, ho3, gZ, hb⟩ := hrel
            by_cases hlt : k < 12
            · have hji : (k : Int) < 12 := by omega
              obtain ⟨y0, y1, y2, y3, y4, y5⟩ := gC.allC
              dsimp only at y0 y1 y2 y3 y4 y5
              have hgl := gC.lt
              obtain ⟨h31, h32, hs3⟩ := own_row ho3
              have h33 : G.length ≤ 9223372036854775807 := by omega
              have hLl := goneN_len G g k
              have HK := hide (And.intro gC (And.intro ho5 (And.intro ho3 (And.intro gZ hb))))
              have HSn := hide (show goneN G g (k + 1) = if (getI G (k : Int)).isNone && shB g k then goneN G g k ++ [(k : Int)] else goneN G g k from rfl)
              clear gC ho5 ho3 gZ hb h31 h32
              generalize goneN G g k = L at *
              have hcall := c_rItem A3 G.length k3 G (k : Int) _ h33 hs3
              go_wp2_with fail
              refine hcall.mono ?_
              clear hcall
              rintro e w4 ⟨rfl, hb4⟩
              cases hgI : getI G (k : Int) with
              | some y =>
                have HI2 := hide hgI
                clear hgI
                simp only [itemV]
                go_wp2_with fail
                go_roundw
                case rel =>
                  obtain ⟨gC, ho5, ho3, gZ, hb⟩ := HK.out
                  refine ⟨k + 1, by omega, by go_num, ?_⟩
                  rw [HSn.out, HI2.out]
                  exact ⟨A5, k5, (gC.below hb4 gC.lt).alloc _, own_bel ho5 (balloc hb4 _), own_bel ho3 (balloc hb4 _), (gZ.below hb4 gZ.lt).alloc _, bthen hb (balloc hb4 _)⟩
                case measure => simp [intOf]; omega
              | none =>
                have HI2 := hide hgI
                clear hgI
                have r5 := pk_range g 4096 (by omega)
                have hsb : shB g k = ((pk g 4096 / 2 ^ k).tmod 2 == 1) := rfl
                generalize hp5 : pk g 4096 = p5 at *
                have HP5 := hide hp5
                clear hp5
                simp only [itemV]
                cases hsh : ((p5 / 2 ^ k).tmod 2 == 1) with
                | false =>
                  have HSH := hide (show shB g k = false by rw [hsb, hsh])
                  clear hsb
                  go_wp2_with (go_at_call 36; refine (c_rpickv HP5.out _ hg1 hg2 (by omega) (by omega)).mono ?_; rintro e w5 ⟨rfl, rfl⟩)
                  go_roundw
                  case rel =>
                    obtain ⟨gC, ho5, ho3, gZ, hb⟩ := HK.out
                    refine ⟨k + 1, by omega, by go_num, ?_⟩
                    rw [HSn.out, HI2.out, HSH.out]
                    exact ⟨A5, k5, (gC.below hb4 gC.lt).alloc _, own_bel ho5 (balloc hb4 _), own_bel ho3 (balloc hb4 _), (gZ.below hb4 gZ.lt).alloc _, bthen hb (balloc hb4 _)⟩
                  case measure => simp [intOf]; omega
                | true =>
                  have HSH := hide (show shB g k = true by rw [hsb, hsh])
                  have gA : SlR ((w4.alloc (.cells (cI zIt).toArray 36)).alloc (.cells (cN (k : Int)).toArray 3)) ((w4.alloc (.cells (cI zIt).toArray 36)).alloc (.cells (cN (k : Int)).toArray 3)).heap.size 1 (some ⟨w4.heap.size + 1, 0, none⟩) 1 (cN (k : Int)) := slr_new _ _ rfl (by simp)
                  have hw4 := hb4.size
                  have gC4 := (HK.out.1.below hb4 HK.out.1.lt)
                  obtain ⟨z0, z1, z2, z3, z4, z5⟩ := gC4.allC
                  dsimp only at z0 z1 z2 z3 z4 z5
                  have hgl4 := gC4.lt
                  have HC4 := hide gC4
                  have ho4 := own_bel HK.out.2.1 hb4
                  have HO4 := hide ho4
                  clear hsb gC4 ho4 y0 y1 y2 y3 y4 y5
                  go_wp2_with (first | (go_at_call 36; refine (c_rpickv HP5.out _ hg1 hg2 (by omega) (by omega)).mono ?_; rintro e w5 ⟨rfl, rfl⟩) | (at_builtin; refine wpList_append_sl (size := 1) rfl _ _ 28 rfl (w.heap.size + 1) 3 i1 (.int .i64 0) 8 Try.underlying28 hi1 hy0 hy1 hy2 rfl (by decide) _ L.length (L.flatMap cN) rfl ((HO4.out.alloc _).alloc _) 1 1 (cN (k : Int)) rfl gA (Below.refl _ _) (fun u hu => oneN [(k : Int)] u (by simpa using hu)) (by unfold maxLen; omega) (by omega) (by simp; omega) ?_; intro v6 w6 ho6 hg6 hor6; obtain ⟨A6, c6, he6, _, _, _⟩ := SlR.of_own ho6; subst he6; have gC := ((HC4.out.alloc _).alloc _).grown hg6 (own_neX HO4.out HC4.out); have hl6 := gC.lt; obtain ⟨t0, t1, t2, t3, t4, t5⟩ := gC.allC; have hf6 := gC.free 5))
                  have HG6 := hide (And.intro ho6 (And.intro hg6 gC))
                  clear ho6 hg6 gC hor6
                  go_roundw
                  case rel =>
                    obtain ⟨_, _, ho3, gZ, hb⟩ := HK.out
                    obtain ⟨ho6, hg6, gC⟩ := HG6.out
                    refine ⟨k + 1, by omega, by go_num, ?_⟩
                    rw [HSn.out, HI2.out, HSH.out]
                    have hlen : (L ++ [(k : Int)]).length = L.length + 1 := by simp
                    simp only [Option.isNone_none, Bool.and_self, if_true]
                    unfold InstRel
                    rw [hlen, flatN_snoc]
                    have gZ4 := ((gZ.below hb4 gZ.lt).alloc (.cells (cI zIt).toArray 36)).alloc (.cells (cN (k : Int)).toArray 3)
                    have hO := (HO4.out.alloc (.cells (cI zIt).toArray 36)).alloc (.cells (cN (k : Int)).toArray 3)
                    have ho34 := own_bel ho3 (balloc (balloc hb4 (.cells (cI zIt).toArray 36)) (.cells (cN (k : Int)).toArray 3))
                    have ho36 := own_two ho34 hO (by decide) hg6
                    refine ⟨A6, c6, gC.set 5 _, own_setO ho6 (own_neX ho6 gC) _, own_setO ho36 (own_neX ho36 gC) _, (gZ4.grown hg6 (own_neX hO gZ4)).other (p := ⟨w.heap.size + 1, 5, none⟩) (by simp) _, ?_⟩
                    exact bset ((balloc (balloc (bthen hb hb4) (.cells (cI zIt).toArray 36)) (.cells (cN (k : Int)).toArray 3)).grown hg6 (by have := hb.size; have := hb4.size; simp; omega) (fun q e => by have := (own_lt hO q e).1; omega)) (p := ⟨w.heap.size + 1, 5, none⟩) (by simp) _
                  case measure => simp [intOf]; omega
            · obtain rfl : k = 12 := by omega
              have hC : instC ms which x g = ⟨1 + 1000 * p1 + p2, mid, p3, p4, G, goneN G g 12⟩ := by
                unfold instC
                rw [HI.out.1, HP.out.1, HP.out.2.1, HP.out.2.2.1, HP.out.2.2.2.1, ← HGe.out]
              obtain ⟨y0, y1, y2, y3, y4, y5⟩ := gC.allC
              obtain ⟨z0, z1, z2, z3, z4, z5⟩ := gZ.allC
              dsimp only [zCR] at y0 y1 y2 y3 y4 y5 z0 z1 z2 z3 z4 z5
              have u0 := gZ.free 0
              have u1 := gZ.free 1
              have u2 := gZ.free 2
              have u3 := gZ.free 3
              have u4 := gZ.free 4
              have u5 := gZ.free 5
              have hgl := gC.lt
              have hzl := gZ.lt
              have HK := hide (And.intro hC (And.intro ho5 (And.intro ho3 hb)))
              clear gC gZ hC ho5 ho3 hb
              generalize goneN G g 12 = L at *
              go_wp2_with fail
              refine bodyPost_ret (v := .tuple #[crV ⟨1 + 1000 * p1 + p2, mid, p3, p4, A3, G.length, k3, A5, L.length, k5⟩, .bool true]) (by simp [results, Try.results16, go_sem, z0, z1, z2, z3, z4, z5]) rfl ?_
              obtain ⟨hC, ho5, ho3, hb⟩ := HK.out
              refine ⟨bset (bset (bset (bset (bset (bset hb (p := ⟨w.heap.size, 0, none⟩) (Nat.le_refl _) _) (p := ⟨w.heap.size, 1, none⟩) (Nat.le_refl _) _) (p := ⟨w.heap.size, 2, none⟩) (Nat.le_refl _) _) (p := ⟨w.heap.size, 3, none⟩) (Nat.le_refl _) _) (p := ⟨w.heap.size, 4, none⟩) (Nat.le_refl _) _) (p := ⟨w.heap.size, 5, none⟩) (Nat.le_refl _) _, .inr ⟨HI.out.2.2, _, rfl, ?_⟩⟩
              rw [hC]
              have q3 := own_row (own_set (own_set (own_set (own_set (own_set (own_set ho3 ⟨w.heap.size, 0, none⟩ (Nat.lt_succ_self _) (.int .i64 (1 + 1000 * p1 + p2))) ⟨w.heap.size, 1, none⟩ (Nat.lt_succ_self _) (.int .i64 mid)) ⟨w.heap.size, 2, none⟩ (Nat.lt_succ_self _) (.int .i64 p3)) ⟨w.heap.size, 3, none⟩ (Nat.lt_succ_self _) (.int .i64 p4)) ⟨w.heap.size, 4, none⟩ (Nat.lt_succ_self _) (.slice A3 G.length k3)) ⟨w.heap.size, 5, none⟩ (Nat.lt_succ_self _) (.slice A5 L.length k5))
              have q5 := own_row (own_set (own_set (own_set (own_set (own_set (own_set ho5 ⟨w.heap.size, 0, none⟩ (Nat.lt_succ_self _) (.int .i64 (1 + 1000 * p1 + p2))) ⟨w.heap.size, 1, none⟩ (Nat.lt_succ_self _) (.int .i64 mid)) ⟨w.heap.size, 2, none⟩ (Nat.lt_succ_self _) (.int .i64 p3)) ⟨w.heap.size, 3, none⟩ (Nat.lt_succ_self _) (.int .i64 p4)) ⟨w.heap.size, 4, none⟩ (Nat.lt_succ_self _) (.slice A3 G.length k3)) ⟨w.heap.size, 5, none⟩ (Nat.lt_succ_self _) (.slice A5 L.length k5))
              exact ⟨⟨rfl, rfl, rfl, rfl⟩, q3, q5⟩
      exact AllReadyH.nil
    exact AllReadyH.nil
end Go.Proofs.Ytncdombfhcfobaa
