/- Marks: the blocks that ranges over functions leave among the deferred calls. -/
import Derived.Test.YtncdombfhcfobaaGreatM30
import Derived.Deep.LoopGhost
import Derived.OwnWalkIn
import Derived.TacticsInMore
import Derived.WalkKit
namespace Go.Proofs.YtncdombfhcfobaaGreat
open Go.RowKit
def marks (Ds : List Nat) : List Deferred := Ds.map fun D => { target := .collected D, args := #[] }
def MarksOk (B : Nat) (W : World) (Ds : List Nat) : Prop := ∀ D ∈ Ds, B ≤ D ∧ W.heap[D]? = some (.deferred (some []))
/-- W' is W, but for the blocks of Ds -/
structure Shut (Ds : List Nat) (W W' : World) : Prop where
  os : W'.os = W.os
  tape : W'.tape = W.tape
  output : W'.output = W.output
  size : W'.heap.size = W.heap.size
  same : ∀ k, k ∉ Ds → W'.heap[k]? = W.heap[k]?
theorem leaves_marks {P : Program} {fn : Func} {tmps : Array Value} {R : Ending → World → Prop} {n B : Nat} : ∀ (Ds : List Nat) (W : World), MarksOk B W Ds → Ds.Nodup →
    (∀ W', Shut Ds W W' → LeavesIn Fence.wide n P fn tmps R [] .returning W') → LeavesInM Fence.wide n P fn tmps R (marks Ds) .returning W
  | [], W, _, _, h => h W ⟨rfl, rfl, rfl, rfl, fun _ _ => rfl⟩
  | D :: Ds, W, hm, hn, h => by
    have hD := (hm D (by simp)).2
    have hlt := (Array.getElem?_eq_some_iff.1 hD).1
    simp only [List.nodup_cons] at hn
    refine ⟨by simp, .inl ⟨D, W.putObj D (.deferred none), rfl, run_takeDeferred hD, leaves_marks Ds _ (fun E hE => ⟨(hm E (List.mem_cons_of_mem _ hE)).1, ?_⟩) hn.2 fun W' hW' => h W' ⟨hW'.os, hW'.tape, hW'.output, ?_, fun k hk => ?_⟩⟩⟩
    · rw [World.putObj_heap_other (by rintro rfl; exact hn.1 hE)]
      exact (hm E (List.mem_cons_of_mem _ hE)).2
    · rw [hW'.size]; simp [World.putObj]
    · simp only [List.mem_cons, not_or] at hk
      rw [hW'.same k hk.2, World.putObj_heap_other hk.1]
theorem Shut.blk {Ds : List Nat} {W W' : World} {B g : Nat} {t : TypeId} {cs : List Value} (h : Shut Ds W W') (hm : MarksOk B W Ds) (hb : Blk W g t cs) : Blk W' g t cs :=
  hb.same (h.same g (fun hg => by have := (hm g hg).2; unfold Blk at hb; rw [hb] at this; cases this))
theorem Shut.im {Ds : List Nat} {W W' : World} {B b : Nat} {L : List (Int × Value)} (h : Shut Ds W W') (hm : MarksOk B W Ds) (hb : IM W b L) : IM W' b L :=
  hb.same (h.same b (fun hg => by have := (hm b hg).2; obtain ⟨es, ck, hh, _⟩ := hb; rw [hh] at this; cases this))
theorem Shut.below {Ds : List Nat} {w W W' : World} (h : Shut Ds W W') (hm : MarksOk w.heap.size W Ds) (hb : Below w.heap.size w W) : Below w.heap.size w W' :=
  ⟨h.os.trans hb.os, h.tape.trans hb.tape, h.output.trans hb.output, by rw [h.size]; exact hb.size, fun k hk => (h.same k (fun hg => by have := (hm k hg).1; omega)).trans (hb.block k hk)⟩
theorem MarksOk.keep {B : Nat} {W W' : World} {Ds : List Nat} (h : MarksOk B W Ds) (hk : ∀ (k : Nat) (q : Option (List Deferred)), W.heap[k]? = some (.deferred q) → W'.heap[k]? = some (.deferred q)) : MarksOk B W' Ds :=
  fun D hD => ⟨(h D hD).1, hk D _ (h D hD).2⟩
theorem MarksOk.setCell {B : Nat} {W : World} {Ds : List Nat} (h : MarksOk B W Ds) (p : Addr) (u : Value) : MarksOk B (W.setCell p u) Ds := h.keep fun k d hk => by
  simp only [World.setCell, Array.getElem?_modify, hk]
  split <;> rfl
theorem MarksOk.alloc {B : Nat} {W : World} {Ds : List Nat} (h : MarksOk B W Ds) (o : Obj) : MarksOk B (W.alloc o) Ds := h.keep fun k _ hk => (Below.heap_alloc W o k (Array.getElem?_eq_some_iff.1 hk).1).trans hk
theorem MarksOk.grown {B g : Nat} {W W' : World} {Ds : List Nat} (h : MarksOk B W Ds) (hg : W.grownBy W' (some g)) (hn : g ∉ Ds) : MarksOk B W' Ds :=
  fun D hD => ⟨(h D hD).1, (hg.block D (Array.getElem?_eq_some_iff.1 (h D hD).2).1 (fun e => by injection e with e; subst e; exact hn hD)).trans (h D hD).2⟩
theorem own_marks {B B0 : Nat} {W W' : World} {row : Option Nat} {Ds : List Nat} (h7 : MarksOk B W Ds) (hg : W.grownBy W' row) (hr : ∀ r, row = some r → B0 ≤ r) (hDs : ∀ D ∈ Ds, D < B0) : MarksOk B W' Ds :=
  fun D hD => ⟨(h7 D hD).1, (hg.block D (Array.getElem?_eq_some_iff.1 (h7 D hD).2).1 (fun e => by have := hr D e.symm; have := hDs D hD; omega)).trans (h7 D hD).2⟩
theorem leaves_marksT {P : Program} {fn : Func} {tmps : Array Value} {R : Ending → World → Prop} {n B : Nat} {T : World → Prop} (hT : ∀ (W : World) (D : Nat), B ≤ D → W.heap[D]? = some (.deferred (some [])) → T W → T (W.putObj D (.deferred none))) : ∀ (Ds : List Nat) (W : World), MarksOk B W Ds → Ds.Nodup → T W →
    (∀ W', T W' → LeavesIn Fence.wide n P fn tmps R [] .returning W') → LeavesInM Fence.wide n P fn tmps R (marks Ds) .returning W
  | [], W, _, _, h0, h => h W h0
  | D :: Ds, W, hm, hn, h0, h => by
    have hD := (hm D (by simp)).2
    simp only [List.nodup_cons] at hn
    refine ⟨by simp, .inl ⟨D, W.putObj D (.deferred none), rfl, run_takeDeferred hD, leaves_marksT hT Ds _ (fun E hE => ⟨(hm E (List.mem_cons_of_mem _ hE)).1, ?_⟩) hn.2 (hT W D (hm D (by simp)).1 hD h0) h⟩⟩
    rw [World.putObj_heap_other (by rintro rfl; exact hn.1 hE)]
    exact (hm E (List.mem_cons_of_mem _ hE)).2
theorem Kee.grown {n0 n1 : Nat} {A X Y : World} {row : Option Nat} (h : Kee n0 n1 A X) (hg : X.grownBy Y row) (hr : ∀ r, row = some r → A.heap.size ≤ r) (hn : n0 ≤ A.heap.size) : Kee n0 n1 A Y :=
  ⟨h.below.grown hg (Nat.le_trans hn h.below.size) (fun k e => Nat.le_trans hn (hr k e)), fun k o hk ha hp => (hg.block k (Array.getElem?_eq_some_iff.1 (h.keep k o hk ha hp)).1 (fun e => by have := hr k e.symm; have := (Array.getElem?_eq_some_iff.1 ha).1; omega)).trans (h.keep k o hk ha hp)⟩
theorem MarksOk.kee {B n0 n1 : Nat} {W W' : World} {Ds : List Nat} (h : MarksOk B W Ds) (hK : Kee n0 n1 W W') (hB : n1 ≤ B) : MarksOk B W' Ds :=
  fun D hD => ⟨(h D hD).1, hK.keep D _ (by have := (h D hD).1; omega) (h D hD).2 rfl⟩
theorem MarksOk.bel {B : Nat} {W W' : World} {Ds : List Nat} (h : MarksOk B W Ds) (hb : Below W.heap.size W W') : MarksOk B W' Ds :=
  fun D hD => ⟨(h D hD).1, (hb.block D (Array.getElem?_eq_some_iff.1 (h D hD).2).1).trans (h D hD).2⟩
theorem MarksOk.lt {B : Nat} {W : World} {Ds : List Nat} (h : MarksOk B W Ds) : ∀ D ∈ Ds, D < W.heap.size := fun D hD => (Array.getElem?_eq_some_iff.1 (h D hD).2).1
theorem roundIn_wide {n m : Nat} {P : Program} {l l' : Nat} {f : FuncId} {tmps : Array Value} {assign body : Code} {w : World} {R : Ending → World → Prop} (h : RoundIn Fence.wide n P l f tmps assign body w R) : RoundIn (Fence.wide.inRound l') m P l f tmps assign body w R :=
  ⟨h.1, fun c cs _ => h.2 c cs (room_wide _)⟩
theorem own_non {W W' : World} {b n k : Nat} {e : TypeId} {v : Value} {xs : List Value} {row : Option Nat} (h : W.ownsRow b e k v n xs) (hg : W.grownBy W' row) (hr : ∀ r, row = some r → ∃ o : Obj, W.heap[r]? = some o ∧ o.isCells = false) : W'.ownsRow b e k v n xs := by
  refine ⟨h.1, ?_⟩
  rcases h.2 with h | ⟨g, c', cur, q1, q2, q3, q4⟩
  · exact .inl h
  · exact .inr ⟨g, c', cur, q1, q2, (grownBy_keeps_cells hg hr q3 rfl).trans q3, q4⟩
theorem Blk.non {W W' : World} {g : Nat} {t : TypeId} {cs : List Value} {row : Option Nat} (h : Blk W g t cs) (hg : W.grownBy W' row) (hr : ∀ r, row = some r → ∃ o : Obj, W.heap[r]? = some o ∧ o.isCells = false) : Blk W' g t cs :=
  (grownBy_keeps_cells hg hr h rfl).trans h
end Go.Proofs.YtncdombfhcfobaaGreat
