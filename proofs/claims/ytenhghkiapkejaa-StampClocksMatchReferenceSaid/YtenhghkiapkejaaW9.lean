/- Contracts of gaps and of the function that it hands back. -/
import Derived.Test.YtenhghkiapkejaaW8
import Derived.RangeFuncNested
import Derived.RangeFuncBound
import Derived.RangeFuncCalls
import Derived.RangeFuncLeaves
import Derived.Shelf.Abstract
import Derived.Shelf.RegionOpen
import Derived.Maps.OwnIn
import Derived.OwnWalkIn
import Derived.TacticsInMore
import Derived.LoopNIn
import Derived.LoopIn
import Derived.BigGuardIn
import Derived.BigGuardPartIn
namespace Go.Proofs.Ytenhghkiapkejaa
open Go.RowKit Go.Shelf
attribute [local go_sem] Oper.semAt_some
def prs (m : I4) : List I3 := [(m.1, m.2.2.1, m.2.1 - m.2.2.2), (m.2.2.1, m.1, m.2.2.2 - m.2.1)]
def pairs (l : List I4) : List I3 := l.flatMap prs
theorem f60 (A : Option Addr) (n c : Nat) (w : World) :
    Calls Try.prog 60 #[.slice A n c] w fun e w' => e = .returned (.func (.func 65) #[] #[.pointer (some ⟨w.heap.size, 0, none⟩)]) ∧ w.alloc (.cells #[.slice A n c] 46) = w' := by
  go_enter Try.func60, Try.ntmps60
  go_wp2
  go_ret
  exact ⟨rfl, rfl⟩
/-- from block B on, every block of cells lies as it lay -/
def CK (B : Nat) (W W' : World) : Prop := W.heap.size ≤ W'.heap.size ∧ ∀ k c t f, B ≤ k → W.heap[k]? = some (.cells c t f) → W'.heap[k]? = some (.cells c t f)
theorem CK.refl (B : Nat) (W : World) : CK B W W := ⟨Nat.le_refl _, fun _ _ _ _ _ h => h⟩
theorem CK.trans {B : Nat} {X Y Z : World} (h : CK B X Y) (k : CK B Y Z) : CK B X Z := ⟨Nat.le_trans h.1 k.1, fun i c t f hi hc => k.2 i c t f hi (h.2 i c t f hi hc)⟩
theorem CK.alloc (B : Nat) (W : World) (o : Obj) : CK B W (W.alloc o) := ⟨by simp, fun k c t f _ h => (Below.heap_alloc W o k (Array.getElem?_eq_some_iff.1 h).1).trans h⟩
theorem CK.setCell {B : Nat} (W : World) {p : Addr} (hp : p.block < B) (u : Value) : CK B W (W.setCell p u) := ⟨by simp [World.setCell], fun k c t f hk h => (Below.heap_setCell W p u k (by omega)).trans h⟩
theorem CK.grown {B : Nat} {W W' : World} {row : Option Nat} (hg : W.grownBy W' row) (hr : ∀ j, row = some j → j < B) : CK B W W' :=
  ⟨hg.size, fun k c t f hk h => (hg.block k (Array.getElem?_eq_some_iff.1 h).1 (fun e => by have := hr k e.symm; omega)).trans h⟩
theorem CK.blk {B : Nat} {W W' : World} {g : Nat} {t : TypeId} {cs : List Value} (h : CK B W W') (hb : Blk W g t cs) (hg : B ≤ g) : Blk W' g t cs := h.2 g _ _ _ hg hb
abbrev Pr (l : List I4) := { x : I3 // x ∈ pairs l }
def encP {l : List I4} (x : Pr l) : Array Value := #[.agg #[.int .i64 x.1.1, .int .i64 x.1.2.1], .int .i64 x.1.2.2]
/-- meetings whose times are times -/
def mtOk (m : I4) : Prop := 0 ≤ m.2.1 ∧ m.2.1 ≤ 1000000 ∧ 0 ≤ m.2.2.2 ∧ m.2.2.2 ≤ 1000000
theorem pairs_gap {l : List I4} (h : ∀ m ∈ l, mtOk m) {x : I3} (hx : x ∈ pairs l) : -1000000 ≤ x.2.2 ∧ x.2.2 ≤ 1000000 := by
  obtain ⟨m, hm, hp⟩ := List.mem_flatMap.1 hx
  have := h m hm
  unfold mtOk at this
  simp only [prs, List.mem_cons, List.not_mem_nil, or_false] at hp
  rcases hp with rfl | rfl <;> simp only [] <;> omega

set_option maxRecDepth 100000 in
set_option maxHeartbeats 1000000 in
theorem f65 (n lp Bn B B0 : Nat) (hn1 : 1 ≤ n) (A : Option Addr) (l : List I4) (c : Nat) (hn : l.length ≤ c) (hc : c ≤ 9223372036854775807) (hok : ∀ m ∈ l, mtOk m) (J Jx : List (Pr l) → World → Prop) (W : World)
    (hJ : ∀ pre W o, J pre W → J pre (W.alloc o))
    (hY : ∀ pre x W1, J pre W1 → pre.length < (pairs l).length → YieldAt Fence.wide (n - 1) Try.prog lp (encP x) W1 fun e W' =>
      (e = .returned (.bool true) ∧ J (pre ++ [x]) W' ∧ Below B W1 W' ∧ CK B0 W1 W') ∨ (e = .returned (.bool false) ∧ Jx (pre ++ [x]) W'))
    (hB : B ≤ W.heap.size) (hB0 : B0 ≤ W.heap.size) (hbx : W.cell? ⟨Bn, 0, none⟩ = some (.slice A l.length c)) (hr : SlR W B 4 A l.length (l.flatMap c4)) (h0 : J [] W) :
    CallsIn Fence.wide n Try.prog 65 #[.func (.yield lp) #[] #[], .pointer (some ⟨Bn, 0, none⟩)] W fun e W' => (∃ v, e = .returned v) ∧
      ((∃ ys : List (Pr l), ys.map (·.1) = pairs l ∧ J ys W') ∨ (∃ pre, Jx pre W')) := by
  refine callsIn_of_wp Try.func65 rfl trivial ?_ rfl
  simp only [Try.ntmps65, List.size_toArray, List.length_cons, List.length_nil, Nat.reduceAdd, Nat.reduceSub, Array.replicate_succ, Array.replicate_zero, List.push_toArray, List.append_toArray, List.nil_append, List.cons_append]
  gi_wp2
  gi_loopw [7] (fun i wr => ∃ (k : Nat) (ys : List (Pr l)), k ≤ l.length ∧ i = .int .i64 k ∧ ys.map (·.1) = pairs (l.take k) ∧ J ys wr ∧ Below B W wr) (fun i _ => l.length - (intOf i).toNat)
  case atStart => exact ⟨0, [], Nat.zero_le _, rfl, rfl, h0, Below.refl _ _⟩
  case round =>
    obtain ⟨k, ys, hk, rfl, hys, hJs, hb⟩ := hrel
    by_cases hlt : k < l.length
    · obtain ⟨b, off, rfl, hbb, hx0, hx1, hx2, hx3⟩ := hr.at4 hb hlt
      have hm := hok l[k] (List.getElem_mem hlt)
      have hp1 : (l[k].1, l[k].2.2.1, l[k].2.1 - l[k].2.2.2) ∈ pairs l := List.mem_flatMap.2 ⟨l[k], List.getElem_mem hlt, by simp [prs]⟩
      have hp2 : (l[k].2.2.1, l[k].1, l[k].2.2.2 - l[k].2.1) ∈ pairs l := List.mem_flatMap.2 ⟨l[k], List.getElem_mem hlt, by simp [prs]⟩
      have hsn : pairs (l.take (k + 1)) = pairs (l.take k) ++ prs l[k] := by
        unfold pairs
        rw [List.take_succ_eq_append_getElem hlt, List.flatMap_append]
        simp
      have hle1 : (pairs (l.take (k + 1))).length ≤ (pairs l).length := by
        have e : pairs l = pairs (l.take (k + 1)) ++ pairs (l.drop (k + 1)) := by
          unfold pairs
          rw [← List.flatMap_append, List.take_append_drop]
        rw [e, List.length_append]; omega
      have hyl : ys.length = (pairs (l.take k)).length := by rw [← hys]; simp
      have hlen1 : ys.length + 2 ≤ (pairs l).length := by rw [hsn, List.length_append] at hle1; simp [prs] at hle1; omega
      clear hle1 hyl hr
      have H := hide (And.intro hys hsn)
      clear hys hsn
      generalize l[k] = m at *
      obtain ⟨m0, m1, m2, m3⟩ := m
      simp only [] at hx0 hx1 hx2 hx3 hp1 hp2
      simp only [mtOk] at hm
      obtain ⟨hm1, hm2, hm3, hm4⟩ := hm
      have hsz := hb.size
      obtain ⟨fn, tmps, assign, body, hy, hR⟩ := hY ys ⟨_, hp1⟩ (wr.alloc (.cells #[.int .i64 m0, .int .i64 m1, .int .i64 m2, .int .i64 m3] 43)) (hJ _ _ _ hJs) (by omega)
      simp only [encP] at hy
      gi_wp2
      refine hR.mono ?_
      clear hR hy
      rintro e W3 (⟨rfl, hJ3, hk3, hck3⟩ | ⟨rfl, hJx3⟩)
      · have hbl := hck3.blk (Blk.new wr 43 [.int .i64 m0, .int .i64 m1, .int .i64 m2, .int .i64 m3]) (by omega)
        obtain ⟨z0, z1, z2, z3⟩ := hbl.all4
        obtain ⟨fn, tmps, assign, body, hy, hR⟩ := hY (ys ++ [⟨_, hp1⟩]) ⟨_, hp2⟩ W3 hJ3 (by simp; omega)
        simp only [encP] at hy
        gi_wp2
        refine hR.mono ?_
        clear hR hy
        rintro e W4 (⟨rfl, hJ4, hk4, hck4⟩ | ⟨rfl, hJx4⟩)
        · gi_wp2
          go_roundw
          case rel =>
            obtain ⟨h1, h2⟩ := H.out
            refine ⟨k + 1, ys ++ [⟨_, hp1⟩] ++ [⟨_, hp2⟩], by omega, by go_num, ?_, hJ4, ((hb.alloc (by omega) _).trans hk3).trans hk4⟩
            rw [h2, List.map_append, List.map_append, h1]
            simp [prs]
          case measure => simp [intOf]; omega
        · gi_wp2
          refine bodyPost_ret (results_none rfl _ _ _) rfl ?_
          exact ⟨⟨_, rfl⟩, .inr ⟨_, hJx4⟩⟩
      · gi_wp2
        refine ⟨(fun f h => by cases h), ?_⟩
        gi_wp2
        refine bodyPost_ret (results_none rfl _ _ _) rfl ?_
        exact ⟨⟨_, rfl⟩, .inr ⟨_, hJx3⟩⟩
    · obtain rfl : k = l.length := by omega
      rw [List.take_length] at hys
      have H := hide hys
      clear hys hr
      gi_wp2
      go_end0
      exact ⟨⟨_, rfl⟩, .inl ⟨ys, H.out, hJs⟩⟩
end Go.Proofs.Ytenhghkiapkejaa
