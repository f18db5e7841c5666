/- Contract of from: what meetings say of everybody whom they connect to one person. -/
import Derived.Test.YtenhghkiapkejaaFromP
import Derived.Deep.LoopGhost
namespace Go.Proofs.Ytenhghkiapkejaa
open Go.RowKit Go.Shelf
attribute [local go_sem] Oper.semAt_some
section
variable {F : Fence} {nF : Nat} {P : Program} {w : World} {ops : Array Oper} {rest : List Oper} {o : Oper} {a : Act} {Q : Exit → Act → World → Prop} {b : Nat} {L : List (Int × Value)}
theorem wpListIn_lookup_im (hg : o.guard = none) (m x : Operand) (t : TypeId) (ok : Bool) (hop : o.op = Op.lookup t m x ok)
    (kt e : TypeId) (z : Value) (ht : P.underlying t = some (.map kt e)) (hkt : P.underlying kt = some (.int .i64)) (hz : (zeroValue e).run P w = .ok z w)
    (hm : a.eval m = .map (some b)) (h : IM w b L) (k : Int) (hx : a.eval x = .int .i64 k) (v : Value)
    (hv : (if ok then .tuple #[(L.lookup k).getD z, .bool (L.lookup k).isSome] else (L.lookup k).getD z) = v)
    (hK : wpListIn F nF P ops Q rest (a.put o.dst v) w) : wpListIn F nF P ops Q (o :: rest) a w := by
  refine wpListIn_plain hg fun K' hK' => ?_
  have hrun := h.run_lookup ht hkt hz k ok
  rw [hv] at hrun
  unfold Oper.wpIn
  refine ⟨by simp [Oper.about, hop], ?_⟩
  rw [Oper.semAt_plain F _ _ (by rw [hop]; intro c hc'; cases hc')]
  simp [execOp, hop, hm, hx, hrun, Result.andThen]
  exact hK' _ _ hK
theorem wpListIn_mapUpdate_im (hg : o.guard = none) (m x y : Operand) (t : TypeId) (hop : o.op = Op.mapUpdate t m x y)
    (kt e : TypeId) (ht : P.underlying t = some (.map kt e)) (hkt : P.underlying kt = some (.int .i64))
    (hm : a.eval m = .map (some b)) (h : IM w b L) (k : Int) (hx : a.eval x = .int .i64 k) (v : Value) (hv : a.eval y = v)
    (hK : ∀ w', IM w' b (putL k v L) → w.grownBy w' (some b) → w'.heap.size = w.heap.size → wpListIn F nF P ops Q rest (a.put o.dst undef) w') : wpListIn F nF P ops Q (o :: rest) a w := by
  refine wpListIn_plain hg fun K' hK' => ?_
  obtain ⟨w', hrun, r1, r2, r3⟩ := h.run_update ht hkt k v
  unfold Oper.wpIn
  refine ⟨by simp [Oper.about, hop], ?_⟩
  rw [Oper.semAt_plain F _ _ (by rw [hop]; intro c hc'; cases hc')]
  simp [execOp, hop, hm, hx, hv, hrun, Result.andThen]
  exact hK' _ _ (hK w' r1 r2 r3)
end
theorem zv3 (w : World) : (zeroValue 3).run Try.prog w = .ok (.int .i64 0) w := by kernel_rfl
/-- what 'from' leaves -/
def FromPost (l : List I4) (p : Int) (w : World) (e : Ending) (w' : World) : Prop :=
  (∃ b D, e = .returned (.tuple #[.map (some b), .bool true]) ∧ w.heap.size ≤ b ∧ IM w' b (dv D) ∧ FromOk l p D ∧ Below w.heap.size w w') ∨ (e = .returned (.tuple #[.map none, .bool false]) ∧ FromBad l p ∧ Below w.heap.size w w')
def marks (Ds : List Nat) : List Deferred := Ds.map fun D => { target := .collected D, args := #[] }
def MarksOk (B : Nat) (W : World) (Ds : List Nat) : Prop := ∀ D ∈ Ds, B ≤ D ∧ W.heap[D]? = some (.deferred (some []))
/-- W' is W, but for the blocks of Ds -/
structure Shut (Ds : List Nat) (W W' : World) : Prop where
  os : W'.os = W.os
  tape : W'.tape = W.tape
  output : W'.output = W.output
  size : W'.heap.size = W.heap.size
  same : ∀ k, k ∉ Ds → W'.heap[k]? = W.heap[k]?
theorem leaves_marks {P : Program} {fn : Func} {tmps : Array Value} {R : Ending → World → Prop} {n B : Nat} : ∀ (Ds : List Nat) (W : World), MarksOk B W Ds → Ds.Nodup →
    (∀ W', Shut Ds W W' → LeavesIn Fence.wide n P fn tmps R [] .returning W') → LeavesInM Fence.wide n P fn tmps R (marks Ds) .returning W
  | [], W, _, _, h => h W ⟨rfl, rfl, rfl, rfl, fun _ _ => rfl⟩
  | D :: Ds, W, hm, hn, h => by
    have hD := (hm D (by simp)).2
    have hlt := (Array.getElem?_eq_some_iff.1 hD).1
    simp only [List.nodup_cons] at hn
    refine ⟨by simp, .inl ⟨D, W.putObj D (.deferred none), rfl, run_takeDeferred hD, leaves_marks Ds _ (fun E hE => ⟨(hm E (List.mem_cons_of_mem _ hE)).1, ?_⟩) hn.2 fun W' hW' => h W' ⟨hW'.os, hW'.tape, hW'.output, ?_, fun k hk => ?_⟩⟩⟩
    · rw [World.putObj_heap_other (by rintro rfl; exact hn.1 hE)]
      exact (hm E (List.mem_cons_of_mem _ hE)).2
    · rw [hW'.size]; simp [World.putObj]
    · simp only [List.mem_cons, not_or] at hk
      rw [hW'.same k hk.2, World.putObj_heap_other hk.1]
theorem Shut.blk {Ds : List Nat} {W W' : World} {B g : Nat} {t : TypeId} {cs : List Value} (h : Shut Ds W W') (hm : MarksOk B W Ds) (hb : Blk W g t cs) : Blk W' g t cs :=
  hb.same (h.same g (fun hg => by have := (hm g hg).2; unfold Blk at hb; rw [hb] at this; cases this))
theorem Shut.im {Ds : List Nat} {W W' : World} {B b : Nat} {L : List (Int × Value)} (h : Shut Ds W W') (hm : MarksOk B W Ds) (hb : IM W b L) : IM W' b L :=
  hb.same (h.same b (fun hg => by have := (hm b hg).2; obtain ⟨es, ck, hh, _⟩ := hb; rw [hh] at this; cases this))
theorem Shut.below {Ds : List Nat} {w W W' : World} (h : Shut Ds W W') (hm : MarksOk w.heap.size W Ds) (hb : Below w.heap.size w W) : Below w.heap.size w W' :=
  ⟨h.os.trans hb.os, h.tape.trans hb.tape, h.output.trans hb.output, by rw [h.size]; exact hb.size, fun k hk => (h.same k (fun hg => by have := (hm k hg).1; omega)).trans (hb.block k hk)⟩
theorem MarksOk.keep {B : Nat} {W W' : World} {Ds : List Nat} (h : MarksOk B W Ds) (hk : ∀ (k : Nat) (q : Option (List Deferred)), W.heap[k]? = some (.deferred q) → W'.heap[k]? = some (.deferred q)) : MarksOk B W' Ds :=
  fun D hD => ⟨(h D hD).1, hk D _ (h D hD).2⟩
theorem MarksOk.setCell {B : Nat} {W : World} {Ds : List Nat} (h : MarksOk B W Ds) (p : Addr) (u : Value) : MarksOk B (W.setCell p u) Ds := h.keep fun k d hk => by
  simp only [World.setCell, Array.getElem?_modify, hk]
  split <;> rfl
theorem MarksOk.alloc {B : Nat} {W : World} {Ds : List Nat} (h : MarksOk B W Ds) (o : Obj) : MarksOk B (W.alloc o) Ds := h.keep fun k _ hk => (Below.heap_alloc W o k (Array.getElem?_eq_some_iff.1 hk).1).trans hk
theorem MarksOk.grown {B g : Nat} {W W' : World} {Ds : List Nat} (h : MarksOk B W Ds) (hg : W.grownBy W' (some g)) (hn : g ∉ Ds) : MarksOk B W' Ds :=
  fun D hD => ⟨(h D hD).1, (hg.block D (Array.getElem?_eq_some_iff.1 (h D hD).2).1 (fun e => by injection e with e; subst e; exact hn hD)).trans (h D hD).2⟩
/-- the frame of 'from' at the head of a round -/
def frFrom (p : Int) (A : Option Addr) (n c s0 ib : Nat) (u17 u18 u19 u60 : Value) (Ds : List Nat) : Act :=
  { tmps := #[.int .i64 p, .slice A n c, undef, undef, .pointer (some ⟨s0, 0, none⟩), .pointer (some ⟨s0 + 1, 0, none⟩), .pointer (some ⟨s0 + 1 + 1 + 1, 0, none⟩), .pointer (some ⟨ib, 0, none⟩),
      undef, undef, undef, undef, undef, undef, .map (some (s0 + 1 + 1)), .int .i64 p, .map (some (s0 + 1 + 1)), u17, u18, u19,
      undef, undef, undef, undef, undef, undef, undef, undef, undef, undef, undef, undef, undef, undef, undef, undef, undef, undef, undef, undef,
      undef, undef, undef, undef, undef, undef, undef, undef, undef, undef, undef, undef, undef, undef, undef, undef, undef, undef, undef, undef, u60, undef], defers := marks Ds }
/-- what holds in memory while 'from' goes on -/
def MemFrom (w : World) (ib : Nat) (isNew : Bool) (D : List (Int × Int)) (Ds : List Nat) (W : World) : Prop :=
  IM W (w.heap.size + 1 + 1) (dv D) ∧ Blk W w.heap.size 92 [.map none] ∧ Blk W (w.heap.size + 1) 4 [.bool false] ∧ Blk W (w.heap.size + 1 + 1 + 1) 92 [.map (some (w.heap.size + 1 + 1))] ∧
    Blk W ib 4 [.bool isNew] ∧ w.heap.size + 1 + 1 + 1 < ib ∧ MarksOk w.heap.size W Ds ∧ Below w.heap.size w W
def InvFrom (l : List I4) (p : Int) (A : Option Addr) (c : Nat) (w : World) (N : Nat) (a : Act) (W : World) : Prop :=
  ∃ (D : List (Int × Int)) (isNew : Bool) (ib : Nat) (u17 u18 u19 u60 : Value) (Ds : List Nat), a = frFrom p A l.length c w.heap.size ib u17 u18 u19 u60 Ds ∧ FI l p D ∧ (isNew = false → ∀ x ∈ pairs l, closedP D x) ∧
    N = 2 * Mn l D + isNew.toNat ∧ MemFrom w ib isNew D Ds W ∧ Ds.Nodup
/-- what holds in memory between two rounds of the inner loop -/
def InFrom (l : List I4) (p : Int) (w : World) (ib : Nat) (D0 : List (Int × Int)) (Ds : List Nat) (B0 : Nat) (pre : List (Pr l)) (W : World) : Prop :=
  B0 ≤ W.heap.size ∧ ∃ (D : List (Int × Int)) (isNew : Bool), MemFrom w ib isNew D Ds W ∧ FI l p D ∧ Mn l D ≤ Mn l D0 ∧ (isNew = false → D = D0 ∧ ∀ x ∈ pre, closedP D x.1) ∧ (isNew = true → Mn l D < Mn l D0)
def OutFrom (l : List I4) (p : Int) (w : World) (Ds : List Nat) (c : Code) (W : World) : Prop :=
  c = .ret ∧ Blk W w.heap.size 92 [.map none] ∧ Blk W (w.heap.size + 1) 4 [.bool false] ∧ FromBad l p ∧ MarksOk w.heap.size W Ds ∧ Below w.heap.size w W
def AxFrom {l : List I4} (p : Int) (A : Option Addr) (c s0 ib g B0 : Nat) (u60 : Value) (x : Pr l) (a : Act) (W : World) : Prop :=
  ∃ Bx, B0 ≤ Bx ∧ Blk W Bx 54 [.int .i64 x.1.1, .int .i64 x.1.2.1] ∧ a =
    { tmps := #[.int .i64 p, .slice A l.length c, undef, undef, .pointer (some ⟨s0, 0, none⟩), .pointer (some ⟨s0 + 1, 0, none⟩), .pointer (some ⟨s0 + 1 + 1 + 1, 0, none⟩), .pointer (some ⟨ib, 0, none⟩),
      .pointer (some ⟨Bx, 0, none⟩), .int .i64 x.1.2.2, undef, undef, undef, undef, .map (some (s0 + 1 + 1)), .int .i64 p, .map (some (s0 + 1 + 1)), .bool true, .slice A l.length c, .func (.func 65) #[] #[.pointer (some ⟨g, 0, none⟩)],
      .agg #[.int .i64 x.1.1, .int .i64 x.1.2.1], .int .i64 x.1.2.2, undef, undef, undef, undef, undef, undef, undef, undef, undef, undef, undef, undef, undef, undef, undef, undef, undef, undef,
      undef, undef, undef, undef, undef, undef, undef, undef, undef, undef, undef, undef, undef, undef, undef, undef, undef, undef, undef, undef, u60, undef], defers := [] }
theorem MemFrom.own {w : World} {ib : Nat} {isNew : Bool} {D : List (Int × Int)} {Ds : List Nat} {W W' : World} {B0 : Nat} {row : Option Nat} (h : MemFrom w ib isNew D Ds W) (hg : W.grownBy W' row) (hr : ∀ r, row = some r → B0 ≤ r ∧ ∃ o : Obj, W.heap[r]? = some o ∧ o.isCells = false)
    (hB : w.heap.size + 1 + 1 + 1 < B0) (hib : ib < B0) (hDs : ∀ D ∈ Ds, D < B0) : MemFrom w ib isNew D Ds W' := by
  obtain ⟨h1, h2, h3, h4, h5, h6, h7, h8⟩ := h
  have hne : ∀ g, g < B0 → row ≠ some g := fun g hg e => by have := (hr g e).1; omega
  exact ⟨h1.grown hg (hne _ (by omega)), h2.grown hg (hne _ (by omega)), h3.grown hg (hne _ (by omega)), h4.grown hg (hne _ (by omega)), h5.grown hg (hne _ hib), h6,
    fun D hD => ⟨(h7 D hD).1, (hg.block D (Array.getElem?_eq_some_iff.1 (h7 D hD).2).1 (fun e => hne D (hDs D hD) e.symm)).trans (h7 D hD).2⟩, bgrown h8 hg (fun k e => by have := (hr k e).1; omega)⟩
theorem own_marks {B B0 : Nat} {W W' : World} {row : Option Nat} {Ds : List Nat} (h7 : MarksOk B W Ds) (hg : W.grownBy W' row) (hr : ∀ r, row = some r → B0 ≤ r) (hDs : ∀ D ∈ Ds, D < B0) : MarksOk B W' Ds :=
  fun D hD => ⟨(h7 D hD).1, (hg.block D (Array.getElem?_eq_some_iff.1 (h7 D hD).2).1 (fun e => by have := hr D e.symm; have := hDs D hD; omega)).trans (h7 D hD).2⟩
set_option maxRecDepth 100000 in
set_option maxHeartbeats 1000000 in
theorem f51 (p : Int) (A : Option Addr) (l : List I4) (c : Nat) (w : World) (hn : l.length ≤ c) (hc : c ≤ 9223372036854775807) (hok : ∀ m ∈ l, mtOk m) (h60 : l.length ≤ 60) (hr : SlR w w.heap.size 4 A l.length (l.flatMap c4)) :
    Calls Try.prog 51 #[.int .i64 p, .slice A l.length c] w (FromPost l p w) := by
  have hmm := @run_makeMap Try.prog
  refine callsIn_wide.1 (callsIn_of_wp_marks (n := 7) Try.func51 rfl trivial ?_ rfl)
  simp only [Try.ntmps51, List.size_toArray, List.length_cons, List.length_nil, Nat.reduceAdd, Nat.reduceSub, Array.replicate_succ, Array.replicate_zero, List.push_toArray, List.append_toArray, List.nil_append, List.cons_append]
  refine wpIn_wide.2 ?_
  go_wp2_with (refine wpList_mapUpdate_im rfl _ _ _ 92 (Or.inr rfl) 3 3 Try.underlying92 Try.underlying3 rfl (by simpa using IM.new ((w.alloc (.cells #[.map none] 92)).alloc (.cells #[.bool false] 4))) p rfl (.int .i64 0) rfl ?_; intro w1 him1 hg1 hs1)
  have him1' : IM w1 (w.heap.size + 1 + 1) (dv [(p, 0)]) := him1
  have hb1 : Below w.heap.size w w1 := bgrown (balloc (balloc (balloc (Below.refl _ _) _) _) _) hg1 (fun k e => by cases e; omega)
  have hq0 : Blk w1 w.heap.size 92 [.map none] := (((Blk.new w 92 [.map none]).alloc _).alloc _).grown hg1 (fun e => by injection e; omega)
  have hq1 : Blk w1 (w.heap.size + 1) 4 [.bool false] := by
    have := ((Blk.new (w.alloc (.cells #[.map none] 92)) 4 [.bool false]).alloc (.map #[] 0)).grown hg1 (fun e => by simp at e)
    simpa using this
  have hsz1 : w1.heap.size = w.heap.size + 1 + 1 + 1 := by rw [hs1]; simp
  clear him1 hg1 hs1 hmm
  refine wp_loop_ghost_k (InvFrom l p A c w) (2 * Mn l [(p, 0)] + 1) ?_ ?_
  · refine ⟨[(p, 0)], true, w.heap.size + 1 + 1 + 1 + 1, undef, undef, undef, undef, [], by rfl, FI.start l p h60, by simp, rfl, ⟨(him1'.alloc _).alloc _, (hq0.alloc _).alloc _, (hq1.alloc _).alloc _, ?_, ?_, by omega, by simp [MarksOk], balloc (balloc hb1 _) _⟩, by simp⟩
    · have := (Blk.new w1 92 [.map (some (w.heap.size + 1 + 1))]).alloc (.cells #[.bool true] 4)
      rw [hsz1] at this
      exact this
    · have := Blk.new (w1.alloc (.cells #[.map (some (w.heap.size + 1 + 1))] 92)) 4 [.bool true]
      simp only [World.size_alloc, hsz1] at this
      exact this
  · rintro N a W ⟨D, isNew, ib, u17, u18, u19, u60, Ds, rfl, hFI, hcl, rfl, hmem, hnd⟩ J K hJ hK
    have HI := hide (And.intro hFI hcl)
    clear hFI hcl hq0 hq1 him1' hb1
    obtain ⟨him, hB0, hB1, hB2, hB3, hib, hmk, hb⟩ := hmem
    obtain ⟨r0, r1⟩ := hB3.all1
    obtain ⟨x0, x1⟩ := hB0.all1
    obtain ⟨y0, y1⟩ := hB1.all1
    obtain ⟨z0, _⟩ := hB2.all1
    have hl0 := hB0.lt
    have hl1 := hB1.lt
    have hl2 := hB2.lt
    have hibl := hB3.lt
    unfold frFrom
    cases isNew with
    | false =>
      go_wp2
      refine leaves_marks Ds _ ((hmk.setCell _ _).setCell _ _) hnd fun W' hW' => ?_
      have hm' := (hmk.setCell ⟨w.heap.size, 0, none⟩ (.map (some (w.heap.size + 1 + 1)))).setCell ⟨w.heap.size + 1, 0, none⟩ (.bool true)
      have g0 := hW'.blk hm' ((hB0.set 0 (.map (some (w.heap.size + 1 + 1)))).other (by simp) _)
      have g1 := hW'.blk hm' ((hB1.other (by simp) _).set 0 (.bool true))
      have g2 := hW'.im hm' ((him.setCell _ _).setCell _ _)
      have g3 := hW'.below hm' (bset (bset hb (by simp) _) (by simp) _)
      obtain ⟨g00, _⟩ := g0.all1
      obtain ⟨g10, _⟩ := g1.all1
      obtain ⟨hFI, hcl⟩ := HI.out
      exact ⟨.tuple #[.map (some (w.heap.size + 1 + 1)), .bool true], by simp [results, Try.results51, go_sem, g00, g10], .inl ⟨_, D, rfl, by omega, g2, hFI.ok (hcl (by simp)), g3⟩⟩
    | true =>
      go_wp2_with fail
      refine (f60 _ _ _ _).mono ?_
      rintro e w2 ⟨rfl, rfl⟩
      have hmk2 := (hmk.setCell ⟨ib, 0, none⟩ (.bool false)).alloc (.cells #[.slice A l.length c] 46)
      have him2 := (him.setCell ⟨ib, 0, none⟩ (.bool false)).alloc (.cells #[.slice A l.length c] 46)
      have hC0 := (hB0.other (p := ⟨ib, 0, none⟩) (by simp; omega) (.bool false)).alloc (.cells #[.slice A l.length c] 46)
      have hC1 := (hB1.other (p := ⟨ib, 0, none⟩) (by simp; omega) (.bool false)).alloc (.cells #[.slice A l.length c] 46)
      have hC2 := (hB2.other (p := ⟨ib, 0, none⟩) (by simp; omega) (.bool false)).alloc (.cells #[.slice A l.length c] 46)
      have hC3 := (hB3.set 0 (.bool false)).alloc (.cells #[.slice A l.length c] 46)
      have hC4 : Blk ((W.setCell ⟨ib, 0, none⟩ (.bool false)).alloc (.cells #[.slice A l.length c] 46)) W.heap.size 46 [.slice A l.length c] := by
        have := Blk.new (W.setCell ⟨ib, 0, none⟩ (.bool false)) 46 [.slice A l.length c]
        simpa using this
      have hb2 := balloc (bset hb (p := ⟨ib, 0, none⟩) (by simp; omega) (.bool false)) (.cells #[.slice A l.length c] 46)
      have hsz2 : ((W.setCell ⟨ib, 0, none⟩ (.bool false)).alloc (.cells #[.slice A l.length c] 46)).heap.size = W.heap.size + 1 := by simp
      have hDs : ∀ D ∈ Ds, D < W.heap.size + 1 := fun D hD => by have := (Array.getElem?_eq_some_iff.1 (hmk D hD).2).1; omega
      have hsl2 := hr.below hb2
      clear hmk him hB0 hB1 hB2 hB3 hb r0 r1 x0 x1 y0 y1 z0 hl0 hl1 hl2 hr
      go_wp2_with fail
      obtain ⟨W2, hW2⟩ : ∃ W2, (W.setCell ⟨ib, 0, none⟩ (.bool false)).alloc (.cells #[.slice A l.length c] 46) = W2 := ⟨_, rfl⟩
      rw [hW2] at hmk2 him2 hC0 hC1 hC2 hC3 hC4 hb2 hsz2 hsl2 ⊢
      clear hW2
      have hbase : w.heap.size + 1 + 1 + 1 < W2.heap.size := hC2.lt
      refine (wpIn_wide (n := 7)).1 (wpIn_rangeFunc_ownH (α := Pr l) rfl (by omega) (gf := 65) (lb := #[.pointer (some ⟨W.heap.size, 0, none⟩)]) rfl trivial (enters_of Try.func65 (by kernel_rfl) rfl)
        (encs := encP) (Kp := fun X Y => Below w.heap.size X Y ∧ CK W2.heap.size X Y) (S := fun ys => ys.map (·.1) = pairs l) (Sp := fun _ => True) (N := (pairs l).length) (w0 := W2) ?hseq
        (fun h k => ⟨h.1.trans k.1, h.2.trans k.2⟩) ?hKb (Below.refl _ _) (fun _ => rfl) (InFrom l p w ib D Ds W2.heap.size) (fun c _ => OutFrom l p w Ds c) ?hI ?hIx ?h0 (AxFrom p A c w.heap.size ib W.heap.size W2.heap.size u60) ?hAx ?assign ?body ?done ?stop)
      case hseq =>
        intro lp J' Jx W' hW' hJ' _ hY h0'
        refine (f65 6 lp W.heap.size w.heap.size W2.heap.size (by omega) A l c hn hc hok J' Jx W' (fun pre X o h => hJ' pre X _ none h (World.grownBy_alloc X o none) (fun r e => by cases e)) (fun pre x X hj hl => hY pre x X hj hl)
          (Nat.le_trans hb2.size hW'.size) hW'.size ((hW'.cell (p := ⟨W.heap.size, 0, none⟩) (by simp; omega)).trans hC4.all1.1) (hsl2.below (hW'.mono hb2.size)) h0').mono ?_
        rintro e X ⟨hv, ⟨ys, h1, h2⟩ | ⟨pre, h⟩⟩
        · exact ⟨hv, .inl ⟨ys, h1, h2⟩⟩
        · exact ⟨hv, .inr ⟨pre, trivial, h⟩⟩
      case hKb =>
        intro X L o o' hL ho hcell hwalk
        refine ⟨belowK_b (w := W2) hb2.size X L o o' hL ho hcell hwalk, by simp [World.putObj], fun k c t f hk hX => ?_⟩
        by_cases hkL : k = L
        · subst hkL
          rw [ho] at hX
          injection hX with hX
          subst hX
          simp [Obj.isCells] at hcell
        · rw [World.putObj_heap_other hkL]; exact hX
      case hI =>
        rintro pre X Y row ⟨hB0', D', isN, hm, r⟩ hg hrow
        exact ⟨Nat.le_trans hB0' hg.size, D', isN, hm.own hg hrow hbase (by omega) (fun D hD => by have := hDs D hD; omega), r⟩
      case hIx =>
        rintro c' pre X Y row ⟨h1, h2, h3, h4, h5, h6⟩ hg hrow
        have hne : ∀ g, g < W2.heap.size → row ≠ some g := fun g hg e => by have := (hrow g e).1; omega
        exact ⟨h1, h2.grown hg (hne _ (by omega)), h3.grown hg (hne _ (by omega)), h4, own_marks h5 hg (fun r e => (hrow r e).1) (fun D hD => by have := hDs D hD; omega), bgrown h6 hg (fun k e => by have := (hrow k e).1; omega)⟩
      case h0 => exact ⟨Nat.le_refl _, D, false, ⟨him2, hC0, hC1, hC2, hC3, hib, hmk2, hb2⟩, HI.out.1, Nat.le_refl _, fun _ => ⟨rfl, by simp⟩, by simp⟩
      case hAx =>
        rintro x a' _ X Y row ⟨Bx, hBx, hblk, he⟩ hg hrow
        refine ⟨Bx, hBx, hblk.grown hg (fun e => ?_), he⟩
        obtain ⟨_, o, ho, hcell⟩ := hrow Bx e
        unfold Blk at hblk
        rw [hblk] at ho
        injection ho with ho
        subst ho
        simp [Obj.isCells] at hcell
      case assign =>
        intro lp pre x X K' hIn hK'
        simp only [encP]
        gi_wp2
        have hIn2 : InFrom l p w ib D Ds W2.heap.size pre (X.alloc (.cells #[.int .i64 x.1.1, .int .i64 x.1.2.1] 54)) := by
          obtain ⟨hB0', D', isN, hm, r⟩ := hIn
          exact ⟨by simp; omega, D', isN, hm.own (World.grownBy_alloc X _ none) (fun r e => by cases e) hbase (by omega) (fun D hD => by have := hDs D hD; omega), r⟩
        exact hK' _ _ ((KeepsOthers.alloc X _).from _) ⟨(Below.refl _ X).alloc (by obtain ⟨_, D', isN, hm, r⟩ := hIn; exact hm.2.2.2.2.2.2.2.size) _, CK.alloc _ X _⟩ hIn2 ⟨X.heap.size, hIn.1, Blk.new X 54 _, rfl⟩
      case body =>
        rintro lp pre x a' X hlp ⟨rc, hrc⟩ ⟨hX0, D', isN, hm, hFI', hM, hcl0, hcl1⟩ ⟨Bx, hBx, hblk, rfl⟩ hlt
        have HJ := hide (And.intro hFI' (And.intro hM (And.intro hcl0 hcl1)))
        have hgap := pairs_gap hok x.2
        have hbd : ∀ q n, D'.lookup q = some n → -200000000 ≤ n ∧ n ≤ 200000000 := fun q n hq => by
          obtain ⟨_, _, _, h4, h5⟩ := hFI'
          have := h4 q n hq
          have : (D'.length : Int) ≤ 121 := by omega
          omega
        have HM := hide hm
        obtain ⟨him, hB0, hB1, hB2, hB3, hib', hmk, hb⟩ := hm
        obtain ⟨r0, r1⟩ := hB3.all1
        obtain ⟨x0, x1⟩ := hB0.all1
        obtain ⟨y0, y1⟩ := hB1.all1
        obtain ⟨z0, _⟩ := hB2.all1
        obtain ⟨p0, p1, _, _⟩ := hblk.all2
        have hl0 := hB0.lt
        have hl1 := hB1.lt
        have hl2 := hB2.lt
        have hl3 := hB3.lt
        have hl4 := hblk.lt
        clear hFI' hM hcl0 hcl1 hB0 hB1 hB2 hB3 hC0 hC1 hC2 hC3 hC4 hblk hmk him2 hmk2 hb2 hsl2
        obtain ⟨⟨qa, qb, g⟩, hx⟩ := x
        simp only [] at p0 p1 hgap ⊢
        obtain ⟨hg1, hg2⟩ := hgap
        have hla := dv_lookup qa D'
        have hlb := dv_lookup qb D'
        cases hA : D'.lookup qa with
        | none =>
          rw [hA] at hla
          simp only [Option.map_none] at hla
          cases hBq : D'.lookup qb with
          | none =>
            rw [hBq] at hlb
            simp only [Option.map_none] at hlb
            have HL := hide (And.intro hla (And.intro hlb (And.intro hA hBq)))
            clear hla hlb hA hBq hbd
            gi_wp2_with (first | (gi_at_lookup; refine wpListIn_lookup_im rfl _ _ 92 true rfl 3 3 _ Try.underlying92 Try.underlying3 (zv3 _) rfl him qa rfl (.tuple #[.int .i64 0, .bool false]) (by rw [HL.out.1]; rfl) ?_) | (gi_at_lookup; refine wpListIn_lookup_im rfl _ _ 92 true rfl 3 3 _ Try.underlying92 Try.underlying3 (zv3 _) rfl him qb rfl (.tuple #[.int .i64 0, .bool false]) (by rw [HL.out.2.1]; rfl) ?_))
            have hm' := HM.out
            obtain ⟨hFI', hM, hcl0, hcl1⟩ := HJ.out
            refine ⟨KeepsFrom.refl _ _, ⟨Below.refl _ _, CK.refl _ _⟩, hX0, D', isN, hm', hFI', hM, fun h => ⟨(hcl0 h).1, fun y hy => ?_⟩, hcl1⟩
            rcases List.mem_append.1 hy with hy | hy
            · exact (hcl0 h).2 y hy
            · simp only [List.mem_singleton] at hy
              subst hy
              intro a ha
              rw [HL.out.2.2.1] at ha
              cases ha
          | some vb =>
            rw [hBq] at hlb
            simp only [Option.map_some] at hlb
            have HL := hide (And.intro hla (And.intro hlb (And.intro hA hBq)))
            clear hla hlb hA hBq hbd
            gi_wp2_with (first | (gi_at_lookup; refine wpListIn_lookup_im rfl _ _ 92 true rfl 3 3 _ Try.underlying92 Try.underlying3 (zv3 _) rfl him qa rfl (.tuple #[.int .i64 0, .bool false]) (by rw [HL.out.1]; rfl) ?_) | (gi_at_lookup; refine wpListIn_lookup_im rfl _ _ 92 true rfl 3 3 _ Try.underlying92 Try.underlying3 (zv3 _) rfl him qb rfl (.tuple #[.int .i64 vb, .bool true]) (by rw [HL.out.2.1]; rfl) ?_))
            have hm' := HM.out
            obtain ⟨hFI', hM, hcl0, hcl1⟩ := HJ.out
            refine ⟨KeepsFrom.refl _ _, ⟨Below.refl _ _, CK.refl _ _⟩, hX0, D', isN, hm', hFI', hM, fun h => ⟨(hcl0 h).1, fun y hy => ?_⟩, hcl1⟩
            rcases List.mem_append.1 hy with hy | hy
            · exact (hcl0 h).2 y hy
            · simp only [List.mem_singleton] at hy
              subst hy
              intro a ha
              rw [HL.out.2.2.1] at ha
              cases ha
        | some va =>
          rw [hA] at hla
          simp only [Option.map_some] at hla
          have hva := hbd _ _ hA
          obtain ⟨hva1, hva2⟩ := hva
          cases hBq : D'.lookup qb with
          | none =>
            rw [hBq] at hlb
            simp only [Option.map_none] at hlb
            have HL := hide (And.intro hla (And.intro hlb (And.intro hA hBq)))
            have HS := hide (dv_snoc D' qb (va - g) hBq)
            clear hla hlb hA hBq hbd
            gi_wp2_with (first | (gi_at_lookup; refine wpListIn_lookup_im rfl _ _ 92 true rfl 3 3 _ Try.underlying92 Try.underlying3 (zv3 _) rfl him qa rfl (.tuple #[.int .i64 va, .bool true]) (by rw [HL.out.1]; rfl) ?_) | (gi_at_lookup; refine wpListIn_lookup_im rfl _ _ 92 true rfl 3 3 _ Try.underlying92 Try.underlying3 (zv3 _) rfl him qb rfl (.tuple #[.int .i64 0, .bool false]) (by rw [HL.out.2.1]; rfl) ?_) | (gi_at_mapUpdate; refine wpListIn_mapUpdate_im rfl _ _ _ 92 rfl 3 3 Try.underlying92 Try.underlying3 rfl him qb rfl (.int .i64 (va - g)) rfl ?_; intro w1 him1 hg1 hs1; have hi1 := HM.out.2.2.2.2.1.grown hg1 (fun e => by injection e; omega); obtain ⟨r0', r1'⟩ := hi1.all1; have hl3' : ib < w1.heap.size := by omega))
            obtain ⟨m1, m2, m3, m4, m5, m6, m7, m8⟩ := HM.out
            obtain ⟨hFI', hM, hcl0, hcl1⟩ := HJ.out
            rw [HS.out] at him1
            have hnm : w.heap.size + 1 + 1 ∉ Ds := fun hd => by
              have h1 := (m7 _ hd).2
              obtain ⟨es, ck, hh, _⟩ := m1
              rw [hh] at h1
              cases h1
            have hins := hFI'.insert hok hx HL.out.2.2.1 HL.out.2.2.2
            simp only [] at hins
            refine ⟨(KeepsFrom.of_grownBy hg1 (fun j e => by cases e; omega)).trans ((KeepsOthers.setCell _ _ _).from _), ⟨((Below.refl _ X).grown hg1 m8.size (fun k e => by cases e; omega)).setCell (by simp; omega) _, (CK.grown hg1 (fun j e => by cases e; omega)).trans (CK.setCell _ (by simp; omega) _)⟩, by simp; omega, D' ++ [(qb, va - g)], true, ⟨him1.setCell _ _, (m2.grown hg1 (fun e => by injection e; omega)).other (by simp; omega) _, (m3.grown hg1 (fun e => by injection e; omega)).other (by simp; omega) _, (m4.grown hg1 (fun e => by injection e; omega)).other (by simp; omega) _, hi1.set 0 _, m6, (m7.grown hg1 hnm).setCell _ _, bset (bgrown m8 hg1 (fun k e => by cases e; omega)) (by simp; omega) _⟩, hins.1, by omega, (fun h => by cases h), fun _ => by omega⟩
          | some vb =>
            rw [hBq] at hlb
            simp only [Option.map_some] at hlb
            have hvb := hbd _ _ hBq
            obtain ⟨hvb1, hvb2⟩ := hvb
            have HL := hide (And.intro hla (And.intro hlb (And.intro hA hBq)))
            clear hla hlb hA hBq hbd
            by_cases heq : va - vb = g
            · have heq' : (va - vb != g) = false := by simp [heq]
              have HE := hide heq
              clear heq
              gi_wp2_with (first | (gi_at_lookup; refine wpListIn_lookup_im rfl _ _ 92 true rfl 3 3 _ Try.underlying92 Try.underlying3 (zv3 _) rfl him qa rfl (.tuple #[.int .i64 va, .bool true]) (by rw [HL.out.1]; rfl) ?_) | (gi_at_lookup; refine wpListIn_lookup_im rfl _ _ 92 true rfl 3 3 _ Try.underlying92 Try.underlying3 (zv3 _) rfl him qb rfl (.tuple #[.int .i64 vb, .bool true]) (by rw [HL.out.2.1]; rfl) ?_))
              have hm' := HM.out
              obtain ⟨hFI', hM, hcl0, hcl1⟩ := HJ.out
              refine ⟨KeepsFrom.refl _ _, ⟨Below.refl _ _, CK.refl _ _⟩, hX0, D', isN, hm', hFI', hM, fun h => ⟨(hcl0 h).1, fun y hy => ?_⟩, hcl1⟩
              rcases List.mem_append.1 hy with hy | hy
              · exact (hcl0 h).2 y hy
              · simp only [List.mem_singleton] at hy
                subst hy
                intro a ha
                simp only [] at ha ⊢
                rw [HL.out.2.2.1] at ha
                injection ha with ha
                rw [HL.out.2.2.2]
                have := HE.out
                congr 1
                omega
            · have heq' : (va - vb != g) = true := by simp [heq]
              have HE := hide heq
              clear heq
              gi_wp2_with (first | (gi_at_lookup; refine wpListIn_lookup_im rfl _ _ 92 true rfl 3 3 _ Try.underlying92 Try.underlying3 (zv3 _) rfl him qa rfl (.tuple #[.int .i64 va, .bool true]) (by rw [HL.out.1]; rfl) ?_) | (gi_at_lookup; refine wpListIn_lookup_im rfl _ _ 92 true rfl 3 3 _ Try.underlying92 Try.underlying3 (zv3 _) rfl him qb rfl (.tuple #[.int .i64 vb, .bool true]) (by rw [HL.out.2.1]; rfl) ?_))
              obtain ⟨m1, m2, m3, m4, m5, m6, m7, m8⟩ := HM.out
              obtain ⟨hFI', hM, hcl0, hcl1⟩ := HJ.out
              have hp1 := hFI'.2.2.1 _ _ HL.out.2.2.2
              have hp2 : Path l p qb (va - g) := .step (x := (qa, qb, g)) (hFI'.2.2.1 _ _ HL.out.2.2.1) hx
              exact ⟨((KeepsOthers.setCell _ _ _).trans (KeepsOthers.setCell _ _ _)).from _, rfl, (m2.set 0 _).other (by simp) _, (m3.other (by simp) _).set 0 _, ⟨qb, vb, va - g, hp1, hp2, fun e => HE.out (by omega)⟩, (m7.setCell _ _).setCell _ _, bset (bset m8 (by simp) _) (by simp) _⟩
      case done =>
        rintro Dm ys X hDm hys ⟨hX0, D', isN, hm, hFI', hM, hcl0, hcl1⟩ hKm
        have HJ := hide (And.intro hFI' (And.intro hM (And.intro hcl0 (And.intro hcl1 hys))))
        have HM := hide hm
        obtain ⟨him, hB0, hB1, hB2, hB3, hib', hmk, hb⟩ := hm
        obtain ⟨r0, r1⟩ := hB3.all1
        have hl3 := hB3.lt
        have HK := hide hKm
        clear hFI' hM hcl0 hcl1 hys hB0 hB1 hB2 hB3 hC0 hC1 hC2 hC3 hC4 him2 hmk2 hb2 hsl2 hmk him hKm
        go_wp2
        obtain ⟨hFI', hM, hcl0, hcl1, hys⟩ := HJ.out
        obtain ⟨m1, m2, m3, m4, m5, m6, m7, m8⟩ := HM.out
        have hDm' : W2.heap.size ≤ Dm := hDm
        refine Handed.intro (2 * Mn l D' + isN.toNat) ?_ (hJ _ _ _ ⟨D', isN, X.heap.size, _, _, _, _, Dm :: Ds, rfl, hFI', fun h x hx => ?_, rfl, ⟨m1.alloc _, m2.alloc _, m3.alloc _, m4.alloc _, Blk.new X 4 [.bool isN], by omega, fun E hE => ?_, balloc m8 _⟩, ?_⟩)
        · cases isN with
          | false => simp; omega
          | true => have := hcl1 rfl; simp; omega
        · have hx' : x ∈ ys.map (·.1) := by rw [hys]; exact hx
          obtain ⟨y, hy, rfl⟩ := List.mem_map.1 hx'
          exact (hcl0 h).2 y hy
        · rcases List.mem_cons.1 hE with rfl | hE
          · exact ⟨by omega, (Below.heap_alloc X _ _ (Array.getElem?_eq_some_iff.1 HK.out).1).trans HK.out⟩
          · exact (m7.alloc _) E hE
        · refine List.nodup_cons.2 ⟨fun hd => ?_, hnd⟩
          have := hDs Dm hd
          omega
      case stop =>
        rintro Dm c' pre X hDm _ ⟨rfl, h1, h2, h3, h4, h5⟩ hKm
        have hDm' : W2.heap.size ≤ Dm := hDm
        have HA := hide (And.intro h1 (And.intro h2 (And.intro h3 (And.intro h4 (And.intro h5 hKm)))))
        clear h1 h2 h3 h4 h5 hKm hC0 hC1 hC2 hC3 hC4 him2 hmk2 hb2 hsl2
        refine (wpIn_wide (n := 7)).2 ?_
        go_wp2
        obtain ⟨h1, h2, h3, h4, h5, hKm⟩ := HA.out
        have hm' : MarksOk w.heap.size X (Dm :: Ds) := fun E hE => by
          rcases List.mem_cons.1 hE with rfl | hE
          · exact ⟨by omega, hKm⟩
          · exact h4 E hE
        refine leaves_marks (Dm :: Ds) _ hm' (List.nodup_cons.2 ⟨fun hd => by have := hDs Dm hd; omega, hnd⟩) fun W' hW' => ?_
        obtain ⟨g00, _⟩ := (hW'.blk hm' h1).all1
        obtain ⟨g10, _⟩ := (hW'.blk hm' h2).all1
        exact ⟨.tuple #[.map none, .bool false], by simp [results, Try.results51, go_sem, g00, g10], .inr ⟨rfl, h3, hW'.below hm' h5⟩⟩
end Go.Proofs.Ytenhghkiapkejaa
