/- Replica: rows of records that are written in place; slices.Compact at records. -/
import Derived.Test.YtcfbgelhggapjaaGreatDoorQ3
import Derived.Lib.SliceRun
import Derived.BigRegion
import Derived.Test.YtcfbgelhggapjaaGreatDoorQ1
import Derived.OrdersHeld
import Derived.Sort.Grow
import Derived.Sort.Statements
namespace Go.Proofs.YtcfbgelhggapjaaGreatDoor
open Go.RowKit Go.Shelf
/-- block g is a row of cap records, of which the first are m; nothing else is said of it -/
def RowM (w : World) (base g cap : Nat) (m : List Rc) : Prop := base ≤ g ∧ m.length ≤ cap ∧ cap ≤ maxLen ∧ ∃ cs, Blk w g 49 cs ∧ cs.length = cap * 7 ∧ cs.take (m.length * 7) = m.flatMap cR
section
variable {w w' : World} {base g cap : Nat} {m : List Rc}
theorem RowM.own (h : RowM w base g cap m) : w.ownsRow base 49 7 (.slice (some ⟨g, 0, none⟩) m.length cap) m.length (m.flatMap cR) := by
  obtain ⟨h1, h2, h3, cs, h4, h5, h6⟩ := h
  exact ⟨by rw [flat_len cR 7 (fun _ => rfl)], .inr ⟨g, cap, cs.toArray, rfl, h1, h4, h2, h3, by simpa using h5, by simpa using h6⟩⟩
theorem RowM.of_own {v : Value} (h : w.ownsRow base 49 7 v m.length (m.flatMap cR)) (hn : 0 < m.length) : ∃ g cap, v = .slice (some ⟨g, 0, none⟩) m.length cap ∧ RowM w base g cap m := by
  rcases h.2 with ⟨_, h1⟩ | ⟨g, cap, cur, h1, h2, h3, h4, h5, h6, h7⟩
  · omega
  · exact ⟨g, cap, h1, h2, h4, h5, cur.toList, by unfold Blk; rw [h3], by simpa using h6, h7⟩
theorem RowM.lt (h : RowM w base g cap m) : g < w.heap.size := by obtain ⟨_, _, _, cs, h4, _⟩ := h; exact h4.lt
theorem RowM.below {B : Nat} (h : RowM w base g cap m) (hb : Below B w w') (hB : g < B) : RowM w' base g cap m := by
  obtain ⟨h1, h2, h3, cs, h4, h5, h6⟩ := h
  exact ⟨h1, h2, h3, cs, h4.below hb hB, h5, h6⟩
theorem RowM.to (h : RowM w base g cap m) (hb : Below w.heap.size w w') : RowM w' base g cap m := h.below hb h.lt
theorem RowM.take (h : RowM w base g cap m) (k : Nat) (hk : k ≤ m.length) : RowM w base g cap (m.take k) := by
  obtain ⟨h1, h2, h3, cs, h4, h5, h6⟩ := h
  refine ⟨h1, by rw [List.length_take]; omega, h3, cs, h4, h5, ?_⟩
  rw [List.length_take, Nat.min_eq_left hk, ← flatR_take, ← h6, List.take_take, Nat.min_eq_left (Nat.mul_le_mul_right _ hk)]
theorem RowM.cells (h : RowM w base g cap m) {k : Nat} (hk : k < m.length) : w.cell? ⟨g, k * 7, none⟩ = some (.int .i64 m[k].pen) ∧ w.cell? ⟨g, k * 7 + 1, none⟩ = some (.int .i64 m[k].num) ∧ w.cell? ⟨g, k * 7 + 2, none⟩ = some (.int .i64 m[k].at_) ∧
    w.cell? ⟨g, k * 7 + 3, none⟩ = some (.int .i64 m[k].of) ∧ w.cell? ⟨g, k * 7 + 4, none⟩ = some (.int .i64 m[k].which) ∧ w.cell? ⟨g, k * 7 + 5, none⟩ = some (.int .i64 m[k].kind) ∧ w.cell? ⟨g, k * 7 + 6, none⟩ = some (.string m[k].text) := by
  obtain ⟨h1, h2, h3, cs, h4, h5, h6⟩ := h
  have hs := (own_row (RowM.own ⟨h1, h2, h3, cs, h4, h5, h6⟩)).2.2
  have := hs.cellsR (Below.refl _ _) hk
  simpa using this.2
theorem RowM.free (h : RowM w base g cap m) (i : Nat) : w.frozen? ⟨g, i, none⟩ = false := by
  obtain ⟨_, _, _, cs, h4, _⟩ := h; exact h4.free i
theorem RowM.fr (h : RowM w base g cap m) (k : Nat) : w.frozen? ⟨g, k * 7, none⟩ = false ∧ w.frozen? ⟨g, k * 7 + 1, none⟩ = false ∧ w.frozen? ⟨g, k * 7 + 2, none⟩ = false ∧ w.frozen? ⟨g, k * 7 + 3, none⟩ = false ∧ w.frozen? ⟨g, k * 7 + 4, none⟩ = false ∧ w.frozen? ⟨g, k * 7 + 5, none⟩ = false ∧ w.frozen? ⟨g, k * 7 + 6, none⟩ = false := ⟨h.free _, h.free _, h.free _, h.free _, h.free _, h.free _, h.free _⟩
theorem set7 (a : List Value) (s x : Rc) (r : List Value) (n : Nat) (hn : a.length = n) : ((((((((a ++ (cR s ++ r)).set n (.int .i64 x.pen)).set (n + 1) (.int .i64 x.num)).set (n + 2) (.int .i64 x.at_)).set (n + 3) (.int .i64 x.of)).set (n + 4) (.int .i64 x.which)).set (n + 5) (.int .i64 x.kind)).set (n + 6) (.string x.text)) = a ++ (cR x ++ r) := by
  subst hn
  have e : ∀ (b : List Value) (i : Nat) (v : Value), (a ++ b).set (a.length + i) v = a ++ b.set i v := fun b i v => by
    rw [List.set_append_right _ _ (by omega)]; congr 2; omega
  have e0 : ∀ (b : List Value) (v : Value), (a ++ b).set a.length v = a ++ b.set 0 v := fun b v => by
    simp
  rw [e0, e, e, e, e, e, e]
  rfl
theorem RowM.store (h : RowM w base g cap m) {k : Nat} (hk : k < m.length) (x : Rc) :
    RowM (((((((w.setCell ⟨g, k * 7, none⟩ (.int .i64 x.pen)).setCell ⟨g, k * 7 + 1, none⟩ (.int .i64 x.num)).setCell ⟨g, k * 7 + 2, none⟩ (.int .i64 x.at_)).setCell ⟨g, k * 7 + 3, none⟩ (.int .i64 x.of)).setCell ⟨g, k * 7 + 4, none⟩ (.int .i64 x.which)).setCell ⟨g, k * 7 + 5, none⟩ (.int .i64 x.kind)).setCell ⟨g, k * 7 + 6, none⟩ (.string x.text)) base g cap (m.set k x) := by
  obtain ⟨h1, h2, h3, cs, h4, h5, h6⟩ := h
  refine ⟨h1, by simp only [List.length_set]; exact h2, h3, _, ((((((h4.set (k * 7) (.int .i64 x.pen)).set (k * 7 + 1) (.int .i64 x.num)).set (k * 7 + 2) (.int .i64 x.at_)).set (k * 7 + 3) (.int .i64 x.of)).set (k * 7 + 4) (.int .i64 x.which)).set (k * 7 + 5) (.int .i64 x.kind)).set (k * 7 + 6) (.string x.text), by simpa using h5, ?_⟩
  have hd : m = m.take k ++ m[k] :: m.drop (k + 1) := by rw [← List.drop_eq_getElem_cons hk, List.take_append_drop]
  have e1 : cs = (m.take k).flatMap cR ++ (cR m[k] ++ ((m.drop (k + 1)).flatMap cR ++ cs.drop (m.length * 7))) := by
    have e5 : m.flatMap cR = (m.take k).flatMap cR ++ (cR m[k] ++ (m.drop (k + 1)).flatMap cR) := by
      conv => lhs; rw [hd]
      rw [List.flatMap_append, List.flatMap_cons]
    conv => lhs; rw [← List.take_append_drop (m.length * 7) cs, h6, e5]
    rw [List.append_assoc, List.append_assoc]
  have hl : ((m.take k).flatMap cR).length = k * 7 := by rw [flat_len cR 7 (fun _ => rfl), List.length_take, Nat.min_eq_left (by omega)]
  rw [e1, set7 _ _ _ _ _ hl, List.length_set]
  have e2 : m.set k x = m.take k ++ x :: m.drop (k + 1) := List.set_eq_take_append_cons_drop.trans (if_pos hk)
  have e3 : ((m.take k).flatMap cR ++ (cR x ++ (m.drop (k + 1)).flatMap cR)) = (m.set k x).flatMap cR := by
    rw [e2, List.flatMap_append, List.flatMap_cons]
  have e4 : ((m.set k x).flatMap cR).length = m.length * 7 := by rw [flat_len cR 7 (fun _ => rfl), List.length_set]
  rw [← List.append_assoc (cR x), ← List.append_assoc, e3, ← e4, List.take_left']
  rfl
theorem Blk.setCells {t : TypeId} : ∀ (vs : List Value) (o : Nat) {w : World} {cs : List Value}, Blk w g t cs → ∃ cs', Blk (w.setCells g o vs) g t cs' ∧ cs'.length = cs.length ∧ ∀ j, j < o → cs'[j]? = cs[j]?
  | [], o, w, cs, h => ⟨cs, h, rfl, fun _ _ => rfl⟩
  | v :: vs, o, w, cs, h => by
    obtain ⟨cs', h1, h2, h3⟩ := Blk.setCells vs (o + 1) (h.set o v)
    exact ⟨cs', h1, by rw [h2]; simp, fun j hj => by rw [h3 j (by omega), List.getElem?_set, if_neg (by omega)]⟩
theorem below_setCells {base : Nat} {a : World} : ∀ (vs : List Value) (o : Nat) {w : World}, Below base a w → base ≤ g → Below base a (w.setCells g o vs)
  | [], _, _, h, _ => h
  | v :: vs, o, _, h, hg => below_setCells vs (o + 1) (h.setCell (p := ⟨g, o, none⟩) hg v) hg
theorem RowM.clear (h : RowM w base g cap m) {k : Nat} (hk : k < m.length) :
    ∃ W, (∀ ty, (Builtin.clear_ #[23] ty #[.slice (some ⟨g, k * 7, none⟩) (m.length - k) (cap - k)]).run Tryz.prog w = .ok (.tuple #[]) W) ∧ RowM W base g cap (m.take k) ∧ Below base w W := by
  have hh := h
  obtain ⟨h1, h2, h3, cs, h4, h5, h6⟩ := h
  have hzl : (Builtin.zeroCells zV.cells (m.length - k)).toList.length = (m.length - k) * 7 := by
    simp [Builtin.zeroCells, Value.cells]
  have hst := run_storeCells_cells (P := Tryz.prog) g (k * 7) (Builtin.zeroCells zV.cells (m.length - k)).toList 0 w
    (fun j hj => by
      rw [hzl] at hj
      rw [Nat.add_zero, h4.cell, List.getElem?_eq_getElem (by
        have : m.length * 7 ≤ cap * 7 := Nat.mul_le_mul_right _ h2
        have : (m.length - k) * 7 + k * 7 = m.length * 7 := by rw [← Nat.add_mul]; congr 1; omega
        omega)]
      rfl)
    (fun j _ => h4.free _)
    (fun v hv => by
      simp only [Builtin.zeroCells, Value.cells, Array.toList_map, List.mem_map] at hv
      obtain ⟨i, _, rfl⟩ := hv
      have : i % 7 < 7 := Nat.mod_lt _ (by decide)
      generalize i % 7 = q at *
      match q, this with
      | 0, _ | 1, _ | 2, _ | 3, _ | 4, _ | 5, _ | 6, _ => rfl)
  rw [Nat.add_zero] at hst
  refine ⟨w.setCells g (k * 7) (Builtin.zeroCells zV.cells (m.length - k)).toList, fun ty => ?_, ?_, below_setCells _ _ (Below.refl _ _) h1⟩
  · obtain ⟨q, hq⟩ : ∃ q, m.length - k = q + 1 := ⟨m.length - k - 1, by omega⟩
    have hu := run_underlying (w := w) Tryz.underlying23
    have hz := Tryz.zeroValue49 w
    rw [hq] at hst ⊢
    simp [Builtin.clear_, hu, hz, hst]
  · obtain ⟨cs', g1, g2, g3⟩ := Blk.setCells (Builtin.zeroCells zV.cells (m.length - k)).toList (k * 7) h4
    have ht := (hh.take k (by omega))
    obtain ⟨q1, q2, q3, cs2, q4, q5, q6⟩ := ht
    refine ⟨q1, q2, q3, cs', g1, by rw [g2]; exact h5, ?_⟩
    rw [← q6]
    have e : cs2 = cs := by
      have a := h4; have b := q4
      unfold Blk at a b
      rw [a] at b
      simpa using b.symm
    subst e
    have hlk : (m.take k).length = k := by rw [List.length_take]; omega
    rw [hlk]
    apply List.ext_getElem?
    intro j
    rw [List.getElem?_take, List.getElem?_take]
    split
    · rename_i hj; exact g3 j hj
    · rfl
theorem RowM.cutLo (h : RowM w base g cap m) {k : Nat} (hk : k < m.length) (W : World) : (Instr.slice 23 (.slice (some ⟨g, 0, none⟩) m.length cap) (some (.int .i64 (k : Int))) none none).run Tryz.prog W = .ok (.slice (some ⟨g, k * 7, none⟩) (m.length - k) (cap - k)) W := by
  obtain ⟨i0, hi, hz0, hz1, hz2⟩ := info_parts Tryz.infoRec
  have he : Tryz.prog.elem 23 = 49 := by simp [Program.elem, Tryz.underlying23]
  have h1 : Tryz.prog.underlying 23 = some (.slice (Tryz.prog.elem 23)) := by rw [he]; exact Tryz.underlying23
  have hcap := h.2.1
  rw [run_slice_l W 23 _ _ _ h1 .i64 k (by omega) (by omega), he]
  simp [sizeOf, typeInfo, hi, Result.andThen, sliced, hz1]
  rw [if_neg (by omega)]
  simp [Addr.add]
  intro h; omega
theorem RowM.cutHi (h : RowM w base g cap m) {k : Nat} (hk : k ≤ m.length) (W : World) : (Instr.slice 23 (.slice (some ⟨g, 0, none⟩) m.length cap) none (some (.int .i64 (k : Int))) none).run Tryz.prog W = .ok (.slice (some ⟨g, 0, none⟩) k cap) W := by
  obtain ⟨i0, hi, hz0, hz1, hz2⟩ := info_parts Tryz.infoRec
  have he : Tryz.prog.elem 23 = 49 := by simp [Program.elem, Tryz.underlying23]
  have h1 : Tryz.prog.underlying 23 = some (.slice (Tryz.prog.elem 23)) := by rw [he]; exact Tryz.underlying23
  have hcap := h.2.1
  rw [run_slice_h W 23 _ _ _ h1 .i64 k (by omega) (by omega), he]
  simp [sizeOf, typeInfo, hi, Result.andThen, sliced]
  rintro _
  simp [Addr.add]
end
end Go.Proofs.YtcfbgelhggapjaaGreatDoor
/- Replica: the package's small functions: isIn, isPen, target, keyOf; the variable rootless. -/
namespace Go.Proofs.YtcfbgelhggapjaaGreatDoor
open Go.RowKit Go.Shelf
/-- the variable rootless reads as it was laid -/
def RL (w : World) : Prop := w.cell? ⟨0, 0, none⟩ = some (.int .i64 (-1)) ∧ w.cell? ⟨0, 1, none⟩ = some (.int .i64 0)
section
variable {w w' : World}
theorem RL.lt (h : RL w) : 0 < w.heap.size := World.block_lt_of_cell? w _ h.1
theorem RL.to {B : Nat} (h : RL w) (hb : Below B w w') (hB : 0 < B) : RL w' := ⟨(hb.cell (p := ⟨0, 0, none⟩) hB).trans h.1, (hb.cell (p := ⟨0, 1, none⟩) hB).trans h.2⟩
theorem RL.to' (h : RL w) (hb : Below w.heap.size w w') : RL w' := h.to hb h.lt
theorem RL.bw (h : RL w) : (∀ x : BW w, x.val.cell? ⟨0, 0, none⟩ = some (.int .i64 (-1))) ∧ (∀ x : BW w, x.val.cell? ⟨0, 1, none⟩ = some (.int .i64 0)) := ⟨fun x => (h.to' x.ok).1, fun x => (h.to' x.ok).2⟩
end
abbrev kV (k : I2) : Value := .agg #[.int .i64 k.1, .int .i64 k.2]
theorem eqKy (w : World) (s t : I2) : (Op.equalIn 10000 70 (kV s) (kV t)).run Tryz.prog w = .ok (decide (s = t)) w := by
  rw [run_equalIn_struct w 9999 70 _ _ (by kernel_rfl) (by kernel_rfl)]
  simp only [Program.fieldsOf, Tryz.underlying70]
  simp [go_sem, Op.eqFields]
  obtain ⟨a, b⟩ := s
  obtain ⟨c, d⟩ := t
  by_cases h1 : a = c
  · by_cases h2 : b = d <;> simp [h1, h2]
  · simp [h1]
theorem neqKy (w : World) (s t : I2) : (binOp .neq 70 (kV s) (kV t)).run Tryz.prog w = .ok (.bool (!decide (s = t))) w := by
  simp only [binOp]
  have := eqKy w s t
  simp [Op.equal, Op.maxDepth] at this ⊢
  rw [this]; rfl
theorem eqlKy (w : World) (s t : I2) : (binOp .eql 70 (kV s) (kV t)).run Tryz.prog w = .ok (.bool (decide (s = t))) w := by
  simp only [binOp]
  have := eqKy w s t
  simp [Op.equal, Op.maxDepth] at this ⊢
  rw [this]; rfl
theorem c_pisIn (n lo hi : Int) (w : World) :
    Calls Tryz.prog 84 #[.int .i64 n, .int .i64 lo, .int .i64 hi] w fun e w' => e = .returned (.bool (inB n lo hi)) ∧ w = w' := by
  go_enter Tryz.func84, Tryz.ntmps84
  go_wp2
  all_goals go_ret
  all_goals exact ⟨by simp [inB]; try omega, rfl⟩
theorem c_pisPen (n : Int) (w : World) :
    Calls Tryz.prog 49 #[.int .i64 n] w fun e w' => e = .returned (.bool (inB n 0 39)) ∧ w = w' := by
  have hk := c_pisIn n 0 39 w
  generalize inB n 0 39 = b at *
  go_enter Tryz.func49, Tryz.ntmps49
  go_wp2_with (go_at_call 84; refine hk.mono ?_; clear hk; rintro e w' ⟨rfl, rfl⟩)
  go_ret
  exact ⟨rfl, rfl⟩
theorem c_ptarget (s : Rc) (w : World) :
    Calls Tryz.prog 85 #[rcV s] w fun e w' => e = .returned (kV (tgt s)) ∧ Below w.heap.size w w' := by
  obtain ⟨p, n, t, o, wh, k, tx⟩ := s
  unfold rcV kV tgt
  go_enter Tryz.func85, Tryz.ntmps85
  go_wp2
  exact bodyPost_ret (v := .agg #[.int .i64 o, .int .i64 wh]) (by simp [results, Tryz.results85, go_sem]) rfl ⟨rfl, balloc (balloc (Below.refl _ _) _) _⟩
theorem c_pkeyOf (s : Rc) (w : World) :
    Calls Tryz.prog 68 #[rcV s] w fun e w' => e = .returned (kV (keyR s)) ∧ Below w.heap.size w w' := by
  obtain ⟨p, n, t, o, wh, k, tx⟩ := s
  unfold rcV kV keyR
  go_enter Tryz.func68, Tryz.ntmps68
  go_wp2
  exact bodyPost_ret (v := .agg #[.int .i64 p, .int .i64 n]) (by simp [results, Tryz.results68, go_sem]) rfl ⟨rfl, balloc (balloc (Below.refl _ _) _) _⟩
theorem Blk.two {w : World} {g : Nat} {t : TypeId} {a b : Value} (h : Blk w g t [a, b]) : w.cell? ⟨g, 0, none⟩ = some a ∧ w.cell? ⟨g, 1, none⟩ = some b := ⟨h.cell 0, h.cell 1⟩
theorem Blk.bw2 {w0 : World} {g : Nat} {t : TypeId} {a b : Value} (h : Blk w0 g t [a, b]) : (∀ x : BW w0, x.val.cell? ⟨g, 0, none⟩ = some a) ∧ (∀ x : BW w0, x.val.cell? ⟨g, 1, none⟩ = some b) := ⟨fun x => (h.below x.ok h.lt).cell 0, fun x => (h.below x.ok h.lt).cell 1⟩
end Go.Proofs.YtcfbgelhggapjaaGreatDoor
/- In a region that draws its order, a call that leaves the world as it was may be taken first. -/
namespace Go.Proofs.YtcfbgelhggapjaaGreatDoor
open Go.RowKit
section
variable {P : Program} {ops : Array Oper} {Q : Exit → Act → World → Prop} {md : Region.Mode} {S : World → Prop}
/-- in every world of S the step x comes to v and leaves the world as it is: by itself, or by a call -/
def Gives (P : Program) (S : World → Prop) (v : Value) (x : Sem Next) : Prop :=
  ∀ w, S w → x.run P w = .ok (.value v) w ∨ ∃ f args, x.run P w = .ok (.enter f args) w ∧ Calls P f args w fun e w' => e = .returned v ∧ w = w'
/-- operation o is wanted in this state, and its step is x -/
def Asks (ops : Array Oper) (o : Oper) (x : Sem Next) (a : Act) : Prop := Region.wanted o (yielded ops a.tmps) = true ∧ execOp a.eval o = x
theorem Asks.put {o : Oper} {x : Sem Next} {a : Act} (h : Asks ops o x a) (hs : ∀ cs b, o.op ≠ .select cs b) {d : Option Tmp} (hd : ∀ t, d = some t → t ∉ o.looksAt ops) (u : Value) : Asks ops o x (a.put d u) :=
  ⟨(wanted_put o a d u hd).trans h.1, (execOp_put o hs a d u hd).trans h.2⟩
theorem Asks.defers {o : Oper} {x : Sem Next} {a : Act} (h : Asks ops o x a) (d : List Deferred) : Asks ops o x { a with defers := d } := ⟨h.1, h.2⟩
theorem Asks.wpOp {i : Nat} {o : Oper} {v : Value} {x : Sem Next} {a : Act} {w : World} (hi : ops[i]? = some o) (h : Asks ops o x a) (hg : Gives P S v x) (hS : S w) {K : Act → World → Prop} (hK : K (a.put o.dst v) w) : wpOp P ops Q i K a w := by
  unfold Go.wpOp
  simp only [hi, h.1, if_true]
  refine .inl ?_
  unfold Oper.wp
  rw [h.2]
  rcases hg w hS with e | ⟨f, args, e, hc⟩ <;> rw [e]
  · exact hK
  · exact Calls.mono hc fun e w' ⟨he, hw⟩ => by subst he; subst hw; exact hK
theorem wpOp_late {j : Nat} {oi oj : Oper} {v : Value} {x : Sem Next} (hj : ops[j]? = some oj) (hap : oi.apart ops oj = true) (hsi : ∀ cs b, oi.op ≠ .select cs b) (hsj : ∀ cs b, oj.op ≠ .select cs b)
    (hQ : ∀ c a w, Q (.panic c) (a.put oi.dst v) w → Q (.panic c) a w) {K : Act → World → Prop} {a : Act} {w : World} (hy : Asks ops oi x a) (h : wpOp P ops Q j K (a.put oi.dst v) w) :
    wpOp P ops Q j (fun a' w' => Asks ops oi x a' ∧ K (a'.put oi.dst v) w') a w := by
  obtain ⟨h1, h2, h3⟩ := Oper.apart_spec hap
  have on : ∀ (b : Act) (u : Value) (w' : World), Asks ops oi x b → K ((b.put oi.dst v).put oj.dst u) w' → Asks ops oi x (b.put oj.dst u) ∧ K ((b.put oj.dst u).put oi.dst v) w' := fun b u w' hb hk =>
    ⟨hb.put hsi h3 u, by rw [← Act.put_comm b v u h2]; exact hk⟩
  unfold wpOp at h ⊢
  simp only [hj] at h ⊢
  rw [wanted_put oj a oi.dst v h1] at h
  by_cases hw : Region.wanted oj (yielded ops a.tmps) = true
  · simp only [hw, if_true] at h ⊢
    rcases h with h | ⟨hk, hl⟩
    · refine .inl ?_
      unfold Oper.wp at h ⊢
      rw [execOp_put oj hsj a oi.dst v h1] at h
      revert h
      generalize (execOp a.eval oj).run P w = r
      intro h
      rcases r with ⟨n, w'⟩ | ⟨y, w'⟩
      · cases n with
        | value u => exact on a u w' hy h
        | skip => exact on a undef w' hy h
        | defer d =>
          refine on _ undef w' (hy.defers _) ?_
          rw [← Act.put_defers]
          exact h
        | enter f args =>
          refine Calls.mono h fun e w2 he => ?_
          cases e with
          | returned u => exact on a u w2 hy he
          | panicked c => exact hQ _ _ _ he
          | outgrown => exact he
        | row rw' args => exact Rows.mono h fun u w2 he => on a u w2 hy he
        | _ => exact h
      · cases y with
        | panic u => exact hQ _ _ _ h
        | _ => exact h
    · refine .inr ⟨?_, hl⟩
      unfold Oper.asks at hk ⊢
      rw [execOp_put oj hsj a oi.dst v h1] at hk
      exact hk
  · simp only [hw] at h ⊢
    exact on a undef w hy h
theorem wpAnyH_quiet {i : Nat} {oi : Oper} {v : Value} {x : Sem Next} (hi : ops[i]? = some oi) (hsel : Region.noSelect ops = true) (hQ : ∀ c a w, Q (.panic c) (a.put oi.dst v) w → Q (.panic c) a w) (hg : Gives P S v x) :
    ∀ (fuel : Nat) (listed : Array Bool) (a : Act) (w : World),
      (∀ j oj, ops[j]? = some oj → j ≠ i → listed.getD j true = false → (∀ e ∈ oj.after, Region.binds md e = true → e.on ≠ i) → oi.apart ops oj = true) →
      i ∈ Region.ready md ops listed → Asks ops oi x a → S w →
      wpAnyH P md ops Q S fuel (listed.setIfInBounds i true) (a.put oi.dst v) w → wpAnyH P md ops Q S (fuel + 1) listed a w := by
  intro fuel
  induction fuel with
  | zero =>
    intro listed a w _ hr hy hS H
    refine ⟨fun h => (by rw [h] at hr; cases hr), fun j hj => ?_⟩
    rcases Nat.decEq j i with hji | hji
    · have := ready_mono hj hji
      rw [H.1] at this
      cases this
    · subst hji; exact hy.wpOp hi hg hS ⟨hS, H⟩
  | succ fuel ih =>
    intro listed a w hfree hr hy hS H
    refine ⟨fun h => (by rw [h] at hr; cases hr), fun j hj => ?_⟩
    rcases Nat.decEq j i with hji | hji
    · obtain ⟨hun, oj, hoj, hall⟩ := mem_ready.1 hj
      have hnot : ∀ e ∈ oj.after, Region.binds md e = true → e.on ≠ i := fun e he hb heq => by
        have p1 := hall e he hb
        have p0 := (mem_ready.1 hr).1
        rw [heq] at p1
        by_cases hsz : i < listed.size
        · simp [hsz] at p0 p1; rw [p0] at p1; cases p1
        · simp [Array.getElem?_eq_none (Nat.le_of_not_lt hsz)] at p1
      have p2 := wpOp_late hoj (hfree j oj hoj hji hun hnot) (fun cs b => Region.noSelect_spec hsel i oi cs b hi) (fun cs b => Region.noSelect_spec hsel j oj cs b hoj) hQ hy (H.2 j (ready_mono hj hji))
      refine wpOp_mono (fun a' w' ⟨q1, q2, q3⟩ => ⟨q2, ih (listed.setIfInBounds j true) a' w' (fun k ok hk hki hunk hno => hfree k ok hk hki ?_ hno) (ready_mono hr (Ne.symm hji)) q1 q2 ?_⟩) p2
      · by_cases hjk : j = k
        · subst hjk; exact hun
        · rw [getD_set_ne true hjk] at hunk; exact hunk
      · rw [Array.setIfInBounds_comm _ _ hji]
        exact q3
    · subst hji; exact hy.wpOp hi hg hS ⟨hS, H⟩
theorem wpAnyH_call {i : Nat} {oi : Oper} {v : Value} {f : FuncId} {args : Array Value} {fuel : Nat} {listed : Array Bool} {a : Act} {w : World} (hi : ops[i]? = some oi) (hs : Region.noSelect ops = true) (hf : Region.free md ops listed i = true) (hr : (Region.ready md ops listed).contains i = true)
    (hQ : ∀ c a w, Q (.panic c) (a.put oi.dst v) w → Q (.panic c) a w) (hw : Region.wanted oi (yielded ops a.tmps) = true) (he : ∀ w, S w → (execOp a.eval oi).run P w = .ok (.enter f args) w) (hc : ∀ w, S w → Calls P f args w fun e w' => e = .returned v ∧ w = w') (hS : S w)
    (h : wpAnyH P md ops Q S fuel (listed.setIfInBounds i true) (a.put oi.dst v) w) : wpAnyH P md ops Q S (fuel + 1) listed a w :=
  wpAnyH_quiet hi hs hQ (fun w hw' => .inr ⟨f, args, he w hw', hc w hw'⟩) fuel listed a w (Region.free_spec hi hf) (by simpa using hr) ⟨hw, rfl⟩ hS h
end
end Go.Proofs.YtcfbgelhggapjaaGreatDoor
/- A region that draws its order, whose operations may make memory: each operation is walked once, in whatever world, from what those that it waits for have left; what they leave abides what the others do. -/
namespace Go.Proofs.YtcfbgelhggapjaaGreatDoor
open Go.RowKit
section
variable {P : Program} {Q : Exit → Act → World → Prop}
/-- the values of all operations, in the frame -/
def putsA (vals : Nat → Value) : List Oper → Nat → Act → Act
  | [], _, a => a
  | o :: l, k, a => putsA vals l (k + 1) (a.put o.dst (vals k))
def updV (vals : Nat → Value) (i : Nat) (v : Value) : Nat → Value := fun j => if j = i then v else vals j
theorem put_put (a : Act) (d : Option Tmp) (u v : Value) : (a.put d u).put d v = a.put d v := by
  cases d with
  | none => rfl
  | some t => simp [Act.put, Array.setIfInBounds_setIfInBounds]
theorem putsA_put (vals : Nat → Value) (d : Option Tmp) (v : Value) : ∀ (l : List Oper) (k : Nat) (a : Act), (∀ o ∈ l, ∀ t, d = some t → o.dst ≠ some t) → putsA vals l k (a.put d v) = (putsA vals l k a).put d v
  | [], _, _, _ => rfl
  | o :: l, k, a, h => by
    show putsA vals l (k + 1) ((a.put d v).put o.dst (vals k)) = (putsA vals l (k + 1) (a.put o.dst (vals k))).put d v
    rw [Act.put_comm a v (vals k) (h o (by simp)), putsA_put vals d v l (k + 1) _ (fun o' ho' => h o' (List.mem_cons_of_mem _ ho'))]
theorem putsA_same (vals vals' : Nat → Value) : ∀ (l : List Oper) (k : Nat) (a : Act), (∀ j, k ≤ j → vals j = vals' j) → putsA vals l k a = putsA vals' l k a
  | [], _, _, _ => rfl
  | o :: l, k, a, h => by
    show putsA vals l (k + 1) _ = putsA vals' l (k + 1) _
    rw [h k (Nat.le_refl _), putsA_same vals vals' l (k + 1) _ (fun j hj => h j (by omega))]
def dstsApart : List Oper → Bool
  | [] => true
  | o :: l => (l.all fun o' => o.dst.isNone || o'.dst != o.dst) && dstsApart l
theorem putsA_upd (vals : Nat → Value) (v : Value) : ∀ (l : List Oper) (k i : Nat) (o : Oper) (a : Act), dstsApart l = true → l[i]? = some o → putsA (updV vals (k + i) v) l k a = (putsA vals l k a).put o.dst v
  | [], _, _, _, _, _, h => by simp at h
  | o' :: l, k, 0, o, a, hd, h => by
    simp only [List.getElem?_cons_zero, Option.some.injEq] at h
    subst h
    simp only [dstsApart, Bool.and_eq_true, List.all_eq_true] at hd
    have hne : ∀ x ∈ l, ∀ t, o'.dst = some t → x.dst ≠ some t := fun x hx t ht => by
      have := hd.1 x hx
      rw [ht] at this
      simpa using this
    show putsA (updV vals (k + 0) v) l (k + 1) (a.put o'.dst (updV vals (k + 0) v k)) = (putsA vals l (k + 1) (a.put o'.dst (vals k))).put o'.dst v
    rw [putsA_same (updV vals (k + 0) v) vals l (k + 1) _ (fun j hj => by simp only [updV, Nat.add_zero]; rw [if_neg (by omega)]), show updV vals (k + 0) v k = v by simp [updV]]
    rw [← putsA_put vals _ _ l (k + 1) _ hne, put_put]
  | o' :: l, k, i + 1, o, a, hd, h => by
    simp only [dstsApart, Bool.and_eq_true] at hd
    have ih := putsA_upd vals v l (k + 1) i o (a.put o'.dst (vals k)) hd.2 (by simpa using h)
    show putsA (updV vals (k + (i + 1)) v) l (k + 1) (a.put o'.dst (updV vals (k + (i + 1)) v k)) = _
    rw [show updV vals (k + (i + 1)) v k = vals k by simp only [updV]; rw [if_neg (by omega)], show k + (i + 1) = k + 1 + i by omega, ih]
    rfl
theorem put_self (a : Act) (d : Option Tmp) : a.put d (match d with | some t => a.tmps.getD t undef | none => undef) = a := by
  cases d with
  | none => rfl
  | some t =>
    obtain ⟨tm, df⟩ := a
    simp only [Act.put, Act.mk.injEq, and_true]
    refine Array.ext (by simp) (fun i h1 h2 => ?_)
    rw [Array.getElem_setIfInBounds]
    split
    · rename_i e
      subst e
      simp [Array.getD, h2]
    · rfl
theorem putsA_start (a : Act) : ∀ (l : List Oper) (k : Nat), ∃ vals, putsA vals l k a = a
  | [], _ => ⟨fun _ => undef, rfl⟩
  | o :: l, k => by
    obtain ⟨vals, h⟩ := putsA_start a l (k + 1)
    refine ⟨updV vals k (match o.dst with | some t => a.tmps.getD t undef | none => undef), ?_⟩
    show putsA (updV vals k _) l (k + 1) (a.put o.dst (updV vals k _ k)) = a
    rw [putsA_same _ vals l (k + 1) _ (fun j hj => by simp only [updV]; rw [if_neg (by omega)]), show ∀ u, updV vals k u k = u from fun u => by simp [updV], put_self, h]
/-- the same over the list of the slots -/
def putsL (vals : Nat → Value) : List Oper → Nat → List Value → List Value
  | [], _, L => L
  | o :: l, k, L => putsL vals l (k + 1) (match o.dst with | some t => L.set t (vals k) | none => L)
theorem putsA_list (vals : Nat → Value) : ∀ (l : List Oper) (k : Nat) (L : List Value) (d : List Deferred), putsA vals l k { tmps := L.toArray, defers := d } = { tmps := (putsL vals l k L).toArray, defers := d }
  | [], _, _, _ => rfl
  | o :: l, k, L, d => by
    show putsA vals l (k + 1) (Act.put _ o.dst (vals k)) = { tmps := (putsL vals l (k + 1) _).toArray, defers := d }
    rw [← putsA_list vals l (k + 1)]
    congr 1
    cases o.dst with
    | none => rfl
    | some t => simp [Act.put]
/-- the operations that o waits for in every order -/
def depsOf (o : Oper) : List Nat := (o.after.toList.filter (Region.binds .any)).map (·.on)
def earlier : List Oper → Nat → Bool
  | [], _ => true
  | o :: l, k => (depsOf o).all (fun j => decide (j < k)) && earlier l (k + 1)
theorem earlier_spec : ∀ (l : List Oper) (k i : Nat) (o : Oper), earlier l k = true → l[i]? = some o → ∀ j ∈ depsOf o, j < k + i
  | [], _, _, _, _, h => by simp at h
  | o' :: l, k, 0, o, he, h => by
    simp only [List.getElem?_cons_zero, Option.some.injEq] at h
    subst h
    simp only [earlier, Bool.and_eq_true, List.all_eq_true, decide_eq_true_eq] at he
    exact he.1
  | o' :: l, k, i + 1, o, he, h => by
    simp only [earlier, Bool.and_eq_true] at he
    intro j hj
    have := earlier_spec l (k + 1) i o he.2 (by simpa using h) j hj
    omega
theorem filt_lt (p p' : Nat → Bool) (h : ∀ j, p' j = true → p j = true) : ∀ l : List Nat, (l.filter p').length ≤ (l.filter p).length ∧ ((∃ i ∈ l, p i = true ∧ p' i = false) → (l.filter p').length < (l.filter p).length)
  | [] => ⟨Nat.le_refl _, fun ⟨i, hi, _⟩ => by cases hi⟩
  | j :: l => by
    obtain ⟨h1, h2⟩ := filt_lt p p' h l
    by_cases hp' : p' j = true
    · have hp := h j hp'
      simp only [List.filter_cons, hp, hp', if_true, List.length_cons]
      refine ⟨by omega, fun ⟨i, hi, a, b⟩ => ?_⟩
      rcases List.mem_cons.1 hi with rfl | hi
      · rw [hp'] at b; cases b
      · have := h2 ⟨i, hi, a, b⟩; omega
    · have hp0 : p' j = false := by simpa using hp'
      by_cases hp : p j = true
      · simp only [List.filter_cons, hp, hp0, if_true, List.length_cons]
        exact ⟨Nat.le_succ_of_le h1, fun _ => Nat.lt_succ_of_le h1⟩
      · have hp1 : p j = false := by simpa using hp
        simp only [List.filter_cons, hp1, hp0]
        refine ⟨by simpa using h1, fun ⟨i, hi, a, b⟩ => ?_⟩
        rcases List.mem_cons.1 hi with rfl | hi
        · rw [hp1] at a; cases a
        · simpa using h2 ⟨i, hi, a, b⟩
def isDst (l : List Oper) (t : Nat) : Bool := l.any fun o => o.dst == some t
theorem putsA_other (vals : Nat → Value) (t : Nat) : ∀ (l : List Oper) (k : Nat) (a : Act), isDst l t = false → (putsA vals l k a).tmps[t]? = a.tmps[t]?
  | [], _, _, _ => rfl
  | o :: l, k, a, h => by
    simp only [isDst, List.any_cons, Bool.or_eq_false_iff] at h
    show (putsA vals l (k + 1) (a.put o.dst (vals k))).tmps[t]? = _
    rw [putsA_other vals t l (k + 1) _ h.2]
    cases hd : o.dst with
    | none => rfl
    | some d =>
      have : d ≠ t := fun e => by rw [hd, e] at h; simp at h
      simp only [Act.put]
      exact Array.getElem?_setIfInBounds_ne this
theorem putsA_size (vals : Nat → Value) : ∀ (l : List Oper) (k : Nat) (a : Act), (putsA vals l k a).tmps.size = a.tmps.size
  | [], _, _ => rfl
  | o :: l, k, a => by
    show (putsA vals l (k + 1) (a.put o.dst (vals k))).tmps.size = _
    rw [putsA_size vals l (k + 1)]
    cases o.dst <;> simp [Act.put]
def dstsIn (l : List Oper) (n : Nat) : Bool := l.all fun o => match o.dst with | some t => decide (t < n) | none => true
theorem putsA_at (vals : Nat → Value) : ∀ (l : List Oper) (k i : Nat) (o : Oper) (t : Nat) (a : Act), dstsApart l = true → dstsIn l a.tmps.size = true → l[i]? = some o → o.dst = some t → (putsA vals l k a).tmps[t]? = some (vals (k + i))
  | [], _, _, _, _, _, _, _, h, _ => by simp at h
  | o' :: l, k, 0, o, t, a, hd, hn, h, ht => by
    simp only [List.getElem?_cons_zero, Option.some.injEq] at h
    subst h
    simp only [dstsApart, Bool.and_eq_true, List.all_eq_true] at hd
    simp only [dstsIn, List.all_cons, Bool.and_eq_true, ht, decide_eq_true_eq] at hn
    show (putsA vals l (k + 1) (a.put o'.dst (vals k))).tmps[t]? = _
    rw [putsA_other]
    · rw [ht]; simp [Act.put, hn.1]
    · simp only [isDst, List.any_eq_false, beq_iff_eq]
      intro x hx e
      have := hd.1 x hx
      rw [ht, e] at this
      simp at this
  | o' :: l, k, i + 1, o, t, a, hd, hn, h, ht => by
    simp only [dstsApart, Bool.and_eq_true] at hd
    simp only [dstsIn, List.all_cons, Bool.and_eq_true] at hn
    have ih := putsA_at vals l (k + 1) i o t (a.put o'.dst (vals k)) hd.2 (by
      have : (a.put o'.dst (vals k)).tmps.size = a.tmps.size := by cases o'.dst <;> simp [Act.put]
      rw [this]; exact hn.2) (by simpa using h) ht
    rw [show k + (i + 1) = k + 1 + i by omega]
    exact ih
def AtD (D : List (Option Nat)) (b : Act) (j : Nat) (v : Value) : Prop :=
  match D[j]? with
  | some (some t) => b.tmps[t]? = some v
  | _ => True
def YesD (D : List (Option Nat)) (y : Nat → Option Bool) (j : Nat) (v : Value) : Prop :=
  match D[j]? with
  | some (some _) => ∀ x, v = .bool x → y j = some x
  | _ => True
def FrOk (b : Act) : List (Nat × Value) → Prop
  | [] => True
  | p :: l => b.tmps[p.1]? = some p.2 ∧ FrOk b l
/-- one operation: from what those that it waits for have left -/
def StepR (P : Program) (D : List (Option Nat)) (fr : List (Nat × Value)) (Q : Exit → Act → World → Prop) (G : Nat → World → World → Prop) (I : World → Prop) (ds : Nat → List Nat) (R : Nat → List Value → Value → World → Prop) (i : Nat) (o : Oper) : Prop :=
  ∀ (b : Act) (vals : Nat → Value) (y : Nat → Option Bool) (w : World), I w → FrOk b fr → (∀ j ∈ depsOf o, AtD D b j (vals j) ∧ R j ((ds j).map vals) (vals j) w ∧ YesD D y j (vals j)) →
    ∀ K : Act → World → Prop, Hid (∀ v w', (R i ((ds i).map vals) v w' ∧ G i w w' ∧ I w') → K (b.put o.dst v) w') →
    if Region.wanted o y = true then Oper.wp P o b w K Q else K (b.put o.dst undef) w
def StepsR (P : Program) (D : List (Option Nat)) (fr : List (Nat × Value)) (Q : Exit → Act → World → Prop) (G : Nat → World → World → Prop) (I : World → Prop) (ds : Nat → List Nat) (R : Nat → List Value → Value → World → Prop) : List Oper → Nat → Prop
  | [], _ => True
  | o :: l, i => StepR P D fr Q G I ds R i o ∧ StepsR P D fr Q G I ds R l (i + 1)
theorem frOk_put {l : List Oper} {vals : Nat → Value} {a : Act} : ∀ fr : List (Nat × Value), fr.all (fun p => !isDst l p.1) = true → FrOk a fr → FrOk (putsA vals l 0 a) fr
  | [], _, _ => trivial
  | p :: fr, h, ha => by
    simp only [List.all_cons, Bool.and_eq_true, Bool.not_eq_true'] at h
    exact ⟨(putsA_other vals p.1 l 0 a h.1).trans ha.1, frOk_put fr (by simpa using h.2) ha.2⟩
/-- the operations whose values a fact names are among those that it waits for -/
def linksOk (ds : Nat → List Nat) : List Oper → Nat → Bool
  | [], _ => true
  | o :: l, k => ((ds k).all fun j => (depsOf o).contains j) && linksOk ds l (k + 1)
theorem linksOk_spec (ds : Nat → List Nat) : ∀ (l : List Oper) (k i : Nat) (o : Oper), linksOk ds l k = true → l[i]? = some o → ∀ j ∈ ds (k + i), j ∈ depsOf o
  | [], _, _, _, _, h => by simp at h
  | o' :: l, k, 0, o, he, h => by
    simp only [List.getElem?_cons_zero, Option.some.injEq] at h
    subst h
    simp only [linksOk, Bool.and_eq_true, List.all_eq_true] at he
    intro j hj
    simpa using he.1 j hj
  | o' :: l, k, i + 1, o, he, h => by
    simp only [linksOk, Bool.and_eq_true] at he
    have := linksOk_spec ds l (k + 1) i o he.2 (by simpa using h)
    rwa [show k + 1 + i = k + (i + 1) by omega] at this
theorem StepsR.get {D : List (Option Nat)} {fr : List (Nat × Value)} {G : Nat → World → World → Prop} {I : World → Prop} {ds : Nat → List Nat} {R : Nat → List Value → Value → World → Prop} : ∀ (l : List Oper) (k i : Nat) (o : Oper), StepsR P D fr Q G I ds R l k → l[i]? = some o → StepR P D fr Q G I ds R (k + i) o
  | [], _, _, _, _, h => by simp at h
  | o' :: l, k, 0, o, hs, h => by
    simp only [List.getElem?_cons_zero, Option.some.injEq] at h
    subst h
    exact hs.1
  | o' :: l, k, i + 1, o, hs, h => by
    have := StepsR.get l (k + 1) i o hs.2 (by simpa using h)
    rwa [show k + 1 + i = k + (i + 1) by omega] at this
theorem rely_any {l : List Oper} {G : Nat → World → World → Prop} {I : World → Prop} {ds : Nat → List Nat} {R : Nat → List Value → Value → World → Prop} {a : Act} (hA : dstsApart l = true) (hE : earlier l 0 = true) (hN : dstsIn l a.tmps.size = true) (hL : linksOk ds l 0 = true) {D : List (Option Nat)} {fr : List (Nat × Value)} (hD : l.map (·.dst) = D) (hF : fr.all (fun p => !isDst l p.1) = true) (hfa : FrOk a fr)
    (hRG : ∀ i k us v w w', k ≠ i → R i us v w → G k w w' → R i us v w') (hs : StepsR P D fr Q G I ds R l 0)
    (hend : ∀ vals w, I w → (∀ i, i < l.length → R i ((ds i).map vals) (vals i) w) → Q .normal (putsA vals l 0 a) w) :
    ∀ (fuel : Nat) (listed : Array Bool) (vals : Nat → Value) (w : World), listed.size = l.length → ((List.range l.length).filter (fun j => !listed.getD j true)).length ≤ fuel → I w →
      (∀ j o, l[j]? = some o → listed.getD j true = true → ∀ k ∈ depsOf o, listed.getD k true = true) → (∀ j, j < l.length → listed.getD j true = true → R j ((ds j).map vals) (vals j) w) →
      wpAny P .any l.toArray Q fuel listed (putsA vals l 0 a) w := by
  have done : ∀ (listed : Array Bool) (vals : Nat → Value) (w : World), listed.size = l.length → I w → (∀ j, j < l.length → listed.getD j true = true → R j ((ds j).map vals) (vals j) w) → Region.ready .any l.toArray listed = [] → Q .normal (putsA vals l 0 a) w := by
    intro listed vals w hsz hI hR hr
    have all : ∀ n j, j < n → j < l.length → listed.getD j true = true := by
      intro n
      induction n with
      | zero => intro j hj; omega
      | succ n ih =>
        intro j hj hjl
        cases hb : listed.getD j true with
        | true => rfl
        | false =>
          exfalso
          have hlj : l[j]? = some l[j] := List.getElem?_eq_getElem hjl
          have : j ∈ Region.ready .any l.toArray listed := by
            refine mem_ready.2 ⟨hb, l[j], by simp, fun e he hbd => ?_⟩
            have hd : e.on ∈ depsOf l[j] := List.mem_map.2 ⟨e, List.mem_filter.2 ⟨by simpa using he, hbd⟩, rfl⟩
            have hlt := earlier_spec l 0 j l[j] hE hlj e.on hd
            have h1 := ih e.on (by omega) (by omega)
            have h2 : e.on < listed.size := by omega
            simpa [Array.getD, h2] using h1
          rw [hr] at this
          cases this
    exact hend vals w hI (fun i hi => hR i hi (all (i + 1) i (by omega) hi))
  intro fuel
  induction fuel with
  | zero =>
    intro listed vals w hsz hf hI hcl hR
    have hr : Region.ready .any l.toArray listed = [] := by
      cases hr : Region.ready .any l.toArray listed with
      | nil => rfl
      | cons i rs =>
        have hi : i ∈ Region.ready .any l.toArray listed := by rw [hr]; simp
        obtain ⟨h1, o, ho, _⟩ := mem_ready.1 hi
        have hil : i < l.length := by simpa using (Array.getElem?_eq_some_iff.1 ho).1
        have : i ∈ (List.range l.length).filter (fun j => !listed.getD j true) := List.mem_filter.2 ⟨List.mem_range.2 hil, by rw [h1]; rfl⟩
        rw [List.eq_nil_of_length_eq_zero (Nat.le_zero.1 hf)] at this
        cases this
    exact ⟨hr, done listed vals w hsz hI hR hr⟩
  | succ fuel ih =>
    intro listed vals w hsz hf hI hcl hR
    refine ⟨done listed vals w hsz hI hR, fun i hi => ?_⟩
    obtain ⟨h1, o, ho, hall⟩ := mem_ready.1 hi
    have hol : l[i]? = some o := by simpa using ho
    have hil : i < l.length := (List.getElem?_eq_some_iff.1 hol).1
    refine wpOp_step ho (fun K' hK' => ?_)
    have hst := StepsR.get l 0 i o hs hol
    rw [Nat.zero_add] at hst
    have hdl : ∀ j ∈ depsOf o, j < l.length ∧ listed.getD j true = true := fun j hj => by
      obtain ⟨e, he, rfl⟩ := List.mem_map.1 hj
      obtain ⟨he1, he2⟩ := List.mem_filter.1 he
      have h2 := hall e (by simpa using he1) he2
      have hlt : e.on < listed.size := by
        rcases Nat.lt_or_ge e.on listed.size with h | h
        · exact h
        · simp [Array.getElem?_eq_none h] at h2
      exact ⟨by omega, by simpa [Array.getD, hlt] using h2⟩
    refine hst (putsA vals l 0 a) vals (yielded l.toArray (putsA vals l 0 a).tmps) w hI (frOk_put fr hF hfa) (fun j hj => ?_) K' (hide fun v w' ⟨q1, q2, q3⟩ => hK' _ _ ?_)
    · have hlj := List.getElem?_eq_getElem (hdl j hj).1
      have hDj : D[j]? = some (l[j]'(hdl j hj).1).dst := by rw [← hD, List.getElem?_map, hlj]; rfl
      refine ⟨?_, hR j (hdl j hj).1 (hdl j hj).2, ?_⟩
      · unfold AtD
        rw [hDj]
        cases hd : (l[j]'(hdl j hj).1).dst with
        | none => trivial
        | some t =>
          have := putsA_at vals l 0 j _ t a hA hN hlj hd
          rwa [Nat.zero_add] at this
      · unfold YesD
        rw [hDj]
        cases hd : (l[j]'(hdl j hj).1).dst with
        | none => trivial
        | some t =>
          intro x hx
          have := putsA_at vals l 0 j _ t a hA hN hlj hd
          rw [Nat.zero_add, hx] at this
          unfold yielded
          have e : (l.toArray[j]?).bind (·.dst) = some t := by
            rw [List.getElem?_toArray, hlj, Option.bind_some, hd]
          rw [e, Option.bind_some, this]
    · rw [← putsA_upd vals v l 0 i o a hA hol, Nat.zero_add]
      have hne : ∀ j o', l[j]? = some o' → listed.getD j true = true → ∀ k ∈ depsOf o', k ≠ i := fun j o' hj hl k hk e => by
        have := hcl j o' hj hl k hk
        rw [e, h1] at this
        cases this
      have hon : i ∉ depsOf o := fun hi' => by have := (hdl i hi').2; rw [h1] at this; cases this
      have hmap : ∀ us : List Nat, (∀ k ∈ us, k ≠ i) → us.map (updV vals i v) = us.map vals := fun us hus => List.map_congr_left fun k hk => by simp only [updV, if_neg (hus k hk)]
      refine ih (listed.setIfInBounds i true) (updV vals i v) w' (by simpa using hsz) ?_ q3 (fun j o' hj hl k hk => ?_) (fun j hj hl => ?_)
      · have hnow : (!(listed.setIfInBounds i true).getD i true) = false := by
          have : i < listed.size := by omega
          simp [this]
        have hlt := (filt_lt (fun j => !listed.getD j true) (fun j => !(listed.setIfInBounds i true).getD j true) (fun j hj => by
          by_cases hji : i = j
          · subst hji
            have : i < listed.size := by omega
            simp [this] at hj
          · rw [getD_set_ne true hji] at hj; exact hj) (List.range l.length)).2 ⟨i, List.mem_range.2 hil, by rw [h1]; rfl, hnow⟩
        omega
      · by_cases hki : i = k
        · subst hki
          have : i < listed.size := by omega
          simp [this]
        · rw [getD_set_ne true hki]
          by_cases hji : i = j
          · subst hji
            rw [hol] at hj
            injection hj with hj
            subst hj
            exact (hdl k hk).2
          · rw [getD_set_ne true hji] at hl
            exact hcl j o' hj hl k hk
      · by_cases hji : j = i
        · subst hji
          rw [hmap (ds j) (fun k hk e => hon (e ▸ linksOk_spec ds l 0 j o hL hol k (by rwa [Nat.zero_add]))), show updV vals j v j = v by simp [updV]]
          exact q1
        · rw [getD_set_ne true (Ne.symm hji)] at hl
          have hlj := List.getElem?_eq_getElem hj
          rw [hmap (ds j) (fun k hk => hne j _ hlj hl k (linksOk_spec ds l 0 j _ hL hlj k (by rwa [Nat.zero_add]))), show updV vals i v j = vals j by simp only [updV, if_neg hji]]
          exact hRG _ i _ _ _ _ (Ne.symm hji) (hR j hj hl) q2
theorem wp_region_rely {id : Nat} {l : List Oper} {a : Act} {w : World} (D : List (Option Nat)) (fr : List (Nat × Value)) (G : Nat → World → World → Prop) (I : World → Prop) (ds : Nat → List Nat) (R : Nat → List Value → Value → World → Prop) (hm : P.follows .mixedOrders = true)
    (hA : (dstsApart l && earlier l 0 && dstsIn l a.tmps.size && linksOk ds l 0) = true) (hD : l.map (·.dst) = D) (hF : fr.all (fun p => !isDst l p.1) = true) (hfa : FrOk a fr)
    (hRG : ∀ i k us v w w', k ≠ i → R i us v w → G k w w' → R i us v w') (hI : I w.drew) (hs : StepsR P D fr Q G I ds R l 0) (hend : ∀ vals w', I w' → (∀ i, i < l.length → R i ((ds i).map vals) (vals i) w') → Q .normal (putsA vals l 0 a) w') : (Code.region id l.toArray true).wp P Q a w := by
  simp only [Bool.and_eq_true] at hA
  obtain ⟨vals, hv⟩ := putsA_start a l 0
  refine wp_region_any hm ?_
  have := rely_any hA.1.1.1 hA.1.1.2 hA.1.2 hA.2 hD hF hfa hRG hs hend l.toArray.size (Array.replicate l.toArray.size false) vals w.drew (by simp) (Nat.le_trans (List.length_filter_le _ _) (by simp)) hI
    (fun j o hj hl => by have := (List.getElem?_eq_some_iff.1 hj).1; simp [this] at hl) (fun j hj hl => by simp [hj] at hl)
  rw [hv] at this
  exact this
end
end Go.Proofs.YtcfbgelhggapjaaGreatDoor
/- A run of slots one behind the other, put at once. -/
namespace Go.Proofs.YtcfbgelhggapjaaGreatDoor
open Go.RowKit
theorem putsL_block (vals : Nat → Value) : ∀ (l : List Oper) (k s : Nat) (A M B : List Value), l.map (·.dst) = (List.range' s l.length).map some → A.length = s → M.length = l.length → putsL vals l k (A ++ (M ++ B)) = A ++ ((List.range' k l.length).map vals ++ B)
  | [], k, s, A, M, B, _, _, hM => by
    have : M = [] := List.eq_nil_of_length_eq_zero hM
    subst this
    rfl
  | o :: l, k, s, A, M, B, hd, hA, hM => by
    match M, hM with
    | m :: M, hM =>
      simp only [List.map_cons, List.length_cons, List.range'_succ, List.cons.injEq] at hd
      show putsL vals l (k + 1) (match o.dst with | some t => (A ++ (m :: M ++ B)).set t (vals k) | none => _) = _
      rw [hd.1]
      dsimp only
      have e : (A ++ (m :: M ++ B)).set s (vals k) = (A ++ [vals k]) ++ (M ++ B) := by
        rw [List.set_append_right _ _ (by omega), hA, Nat.sub_self]
        simp
      rw [e, putsL_block vals l (k + 1) (s + 1) (A ++ [vals k]) M B hd.2 (by simp [hA]) (by simpa using hM)]
      simp [List.range'_succ]
theorem putsL_app (vals : Nat → Value) : ∀ (l1 l2 : List Oper) (k : Nat) (L : List Value), putsL vals (l1 ++ l2) k L = putsL vals l2 (k + l1.length) (putsL vals l1 k L)
  | [], l2, k, L => rfl
  | o :: l1, l2, k, L => by
    show putsL vals (l1 ++ l2) (k + 1) _ = putsL vals l2 (k + (l1.length + 1)) (putsL vals l1 (k + 1) _)
    rw [putsL_app vals l1 l2 (k + 1), show k + (l1.length + 1) = k + 1 + l1.length by omega]
theorem putsL_split (vals : Nat → Value) (n s : Nat) {l : List Oper} {L : List Value} (hd : ((l.take n).map (·.dst) == (List.range' s n).map some) = true) (hn : decide (n ≤ l.length) = true) (hs : decide (s + n ≤ L.length) = true) :
    putsL vals l 0 L = putsL vals (l.drop n) n (L.take s ++ ((List.range' 0 n).map vals ++ L.drop (s + n))) := by
  have hn' := of_decide_eq_true hn
  have hs' := of_decide_eq_true hs
  have hl : (l.take n).length = n := by simp; omega
  have e1 : L = L.take s ++ ((L.drop s).take n ++ L.drop (s + n)) := by
    rw [← List.drop_drop, List.take_append_drop, List.take_append_drop]
  have e2 := putsL_app vals (l.take n) (l.drop n) 0 L
  rw [List.take_append_drop, hl, Nat.zero_add] at e2
  rw [e2]
  congr 1
  conv => lhs; rw [e1]
  rw [putsL_block vals (l.take n) 0 s (L.take s) ((L.drop s).take n) (L.drop (s + n)) (by rw [hl]; exact eq_of_beq hd) (by simp; omega) (by rw [hl]; simp; omega), hl]
end Go.Proofs.YtcfbgelhggapjaaGreatDoor
/- Replica: the package's order functions listed and before. -/
namespace Go.Proofs.YtcfbgelhggapjaaGreatDoor
open Go.RowKit
def cmpZ (x y : Int) : Int := if x < y then -1 else if x = y then 0 else 1
theorem c_isNaN (n : Int) (w : World) : Calls Tryz.prog 104 #[.int .i64 n] w fun e w' => e = .returned (.bool false) ∧ w = w' := by
  go_enter Tryz.func104, Tryz.ntmps104
  go_wp2
  go_ret
  exact ⟨by simp, rfl⟩
theorem c_compare (x y : Int) (w : World) : Calls Tryz.prog 83 #[.int .i64 x, .int .i64 y] w fun e w' => e = .returned (.int .i64 (cmpZ x y)) ∧ w = w' := by
  go_enter Tryz.func83, Tryz.ntmps83
  go_wp2_with (go_at_call 104; refine (c_isNaN _ _).mono ?_; rintro e w' ⟨rfl, rfl⟩)
  all_goals go_ret
  all_goals refine ⟨ret_int ?_, rfl⟩
  all_goals simp only [cmpZ]
  all_goals (repeat' split)
  all_goals first | rfl | omega
def orZ (x y : Int) : Int := if x = 0 then y else x
theorem c_or (g : Nat) (x y : Int) (w : World) (h0 : w.cell? ⟨g, 0, none⟩ = some (.int .i64 x)) (h1 : w.cell? ⟨g, 1, none⟩ = some (.int .i64 y)) :
    Calls Tryz.prog 82 #[.slice (some ⟨g, 0, none⟩) 2 2] w fun e w' => e = .returned (.int .i64 (orZ x y)) ∧ w = w' := by
  go_enter Tryz.func82, Tryz.ntmps82
  go_wp2
  go_loop [5, 8] (fun _ i => ∃ k : Nat, k ≤ 2 ∧ i = .int .i64 k ∧ Hid (1 ≤ k → x = 0) ∧ Hid (2 ≤ k → y = 0)) (fun _ i => 2 - (intOf i).toNat)
  case atStart => exact ⟨0, by omega, rfl, fun h => absurd h (by omega), fun h => absurd h (by omega)⟩
  case round =>
    obtain ⟨k, hk, rfl, HA, HB⟩ := hrel
    have hkk : k = 0 ∨ k = 1 ∨ k = 2 := by omega
    rcases hkk with rfl | rfl | rfl
    · by_cases hx : x = 0
      · have H := hide hx
        have d : (x != 0) = false := by simp [hx]
        clear hx HA HB hk
        go_wp2_with fail
        go_round
        case rel => exact ⟨1, by omega, by go_num, fun _ => H.out, fun h => absurd h (by omega)⟩
        case measure => simp [intOf]
      · have H := hide hx
        have d : (x != 0) = true := by simp [hx]
        clear hx HA HB hk
        go_wp2_with fail
        go_ret
        exact ⟨ret_int (by unfold orZ; rw [if_neg H.out]), rfl⟩
    · have HX := hide (HA.out (Nat.le_refl _))
      by_cases hy : y = 0
      · have H := hide hy
        have d : (y != 0) = false := by simp [hy]
        clear hy HA HB hk
        go_wp2_with fail
        go_round
        case rel => exact ⟨2, by omega, by go_num, fun _ => HX.out, fun _ => H.out⟩
        case measure => simp [intOf]
      · have H := hide hy
        have d : (y != 0) = true := by simp [hy]
        clear hy HA HB hk
        go_wp2_with fail
        go_ret
        exact ⟨ret_int (by unfold orZ; rw [if_pos HX.out]), rfl⟩
    · have HX := hide (HA.out (by omega))
      have HY := hide (HB.out (by omega))
      clear HA HB hk
      go_wp2_with fail
      go_ret
      exact ⟨ret_int (by unfold orZ; rw [if_pos HX.out, HY.out]), rfl⟩
def lsZ (a b : Rc) : Int := orZ (cmpZ a.pen b.pen) (cmpZ a.num b.num)
def bfZ (a b : Rc) : Int := orZ (cmpZ a.at_ b.at_) (lsZ a b)
theorem cmpZ_neg {x y : Int} : cmpZ x y < 0 ↔ x < y := by unfold cmpZ; (repeat' split) <;> omega
theorem cmpZ_zero {x y : Int} : cmpZ x y = 0 ↔ x = y := by unfold cmpZ; (repeat' split) <;> omega
theorem lsZ_neg {a b : Rc} : lsZ a b < 0 ↔ lsB a b = true := by
  rw [ls_iff]
  unfold lsZ orZ
  have h1 := @cmpZ_neg a.pen b.pen
  have h2 := @cmpZ_neg a.num b.num
  have h3 := @cmpZ_zero a.pen b.pen
  split <;> omega
theorem bfZ_neg {a b : Rc} : bfZ a b < 0 ↔ bfB a b = true := by
  rw [bf_iff]
  have h0 := @lsZ_neg a b
  rw [ls_iff] at h0
  unfold bfZ orZ
  have h1 := @cmpZ_neg a.at_ b.at_
  have h3 := @cmpZ_zero a.at_ b.at_
  split <;> omega
/-- a world that has only grown, and drawn -/
def GW (w w' : World) : Prop := ∃ q os', w' = Go.Sort.grow (w.drewN q) os'
theorem GW.below {w w' : World} (h : GW w w') : Below w.heap.size w w' := by
  obtain ⟨q, os', rfl⟩ := h
  refine ⟨rfl, rfl, rfl, by simp [Go.Sort.grow], fun k hk => ?_⟩
  rw [Go.Sort.heap_grow_old _ _ (by simpa using hk)]
  rfl
theorem GW.refl (w : World) : GW w w := ⟨0, #[], by simp [World.drewN]⟩
theorem GW.alloc {w w' : World} (h : GW w w') (o : Obj) : GW w (w'.alloc o) := by
  obtain ⟨q, os', rfl⟩ := h
  exact ⟨q, os' ++ #[o], by rw [Go.Sort.alloc_eq_grow, Go.Sort.grow_grow]⟩
theorem GW.drew {w w' : World} (h : GW w w') : GW w w'.drew := by
  obtain ⟨q, os', rfl⟩ := h
  exact ⟨q + 1, os', rfl⟩
theorem GW.trans {w w1 w2 : World} (h : GW w w1) (g : GW w1 w2) : GW w w2 := by
  obtain ⟨q, os', rfl⟩ := h
  obtain ⟨r, os2, rfl⟩ := g
  refine ⟨q + r, os' ++ os2, ?_⟩
  show Go.Sort.grow (Go.Sort.grow ((w.drewN q).drewN r) os') os2 = _
  rw [Go.Sort.grow_grow]
  congr 1
  simp only [World.drewN, Nat.add_assoc]
set_option linter.unusedSimpArgs false in
set_option maxRecDepth 100000 in
set_option maxHeartbeats 4000000 in
theorem c_plisted (a b : Rc) (w : World) : Calls Tryz.prog 51 #[rcV a, rcV b] w fun e w' => e = .returned (.int .i64 (lsZ a b)) ∧ GW w w' := by
  have HG := hide (((GW.refl w).alloc (.cells (cR a).toArray 49)).alloc (.cells (cR b).toArray 49))
  have gA := (Blk.new w 49 (cR a)).alloc (.cells (cR b).toArray 49)
  have gB := Blk.new (w.alloc (.cells (cR a).toArray 49)) 49 (cR b)
  rw [show (w.alloc (.cells (cR a).toArray 49)).heap.size = w.heap.size + 1 from by simp] at gB
  unfold lsZ
  have h1 := fun W => c_compare a.pen b.pen W
  have h2 := fun W => c_compare a.num b.num W
  generalize cmpZ a.pen b.pen = X at *
  generalize cmpZ a.num b.num = Y at *
  obtain ⟨p, n, t, o, wh, k, tx⟩ := a
  obtain ⟨q, m, t2, o2, wh2, k2, tx2⟩ := b
  unfold cR at HG gA gB
  unfold rcV
  dsimp only at HG gA gB h1 h2 ⊢
  go_enter Tryz.func51, Tryz.ntmps51
  go_wp2_with fail
  generalize hW : (w.alloc (.cells #[.int .i64 p, .int .i64 n, .int .i64 t, .int .i64 o, .int .i64 wh, .int .i64 k, .string tx] 49)).alloc (.cells #[.int .i64 q, .int .i64 m, .int .i64 t2, .int .i64 o2, .int .i64 wh2, .int .i64 k2, .string tx2] 49) = W
  have HG2 : Hid (GW w W) := by rw [← hW]; exact HG
  have gA2 : Blk W w.heap.size 49 (cR ⟨p, n, t, o, wh, k, tx⟩) := by rw [← hW]; exact gA
  have gB2 : Blk W (w.heap.size + 1) 49 (cR ⟨q, m, t2, o2, wh2, k2, tx2⟩) := by rw [← hW]; exact gB
  clear hW gA gB HG
  have HX : Hid (∀ W', Below W.heap.size W W' → W'.cell? ⟨w.heap.size, 0, none⟩ = some (.int .i64 p) ∧ W'.cell? ⟨w.heap.size, 1, none⟩ = some (.int .i64 n) ∧ W'.cell? ⟨w.heap.size + 1, 0, none⟩ = some (.int .i64 q) ∧ W'.cell? ⟨w.heap.size + 1, 1, none⟩ = some (.int .i64 m)) := hide (fun W' h => ⟨(gA2.below h gA2.lt).cell 0, (gA2.below h gA2.lt).cell 1, (gB2.below h gB2.lt).cell 0, (gB2.below h gB2.lt).cell 1⟩)
  clear gA2 gB2
  refine wp_region_held_drew (S := fun W' => W'.cell? ⟨w.heap.size, 0, none⟩ = some (.int .i64 p) ∧ W'.cell? ⟨w.heap.size, 1, none⟩ = some (.int .i64 n) ∧ W'.cell? ⟨w.heap.size + 1, 0, none⟩ = some (.int .i64 q) ∧ W'.cell? ⟨w.heap.size + 1, 1, none⟩ = some (.int .i64 m)) (by kernel_rfl) (HX.out _ (bdrew (Below.refl _ _))) (fun hHeld => ?_)
  refine wpAnyH_take (i := 0) (v := ?_) rfl (by kernel_rfl) (by kernel_rfl) (by kernel_rfl) (fun _ _ _ h => h) (Or.inl ⟨by rfl, ?hy1⟩) (by assumption) ?rs1
  case hy1 => (intro w hSw; (try dsimp only at hSw); go_simp; try (with_reducible rfl))
  (try simp only [Act.put, List.setIfInBounds_toArray, List.set_cons_zero, List.set_cons_succ, List.getElem_toArray, List.getElem_cons_zero, List.getElem_cons_succ])
  refine wpAnyH_take (i := 1) (v := ?_) rfl (by kernel_rfl) (by kernel_rfl) (by kernel_rfl) (fun _ _ _ h => h) (Or.inl ⟨by rfl, ?hy2⟩) (by assumption) ?rs2
  case hy2 => (intro w hSw; (try dsimp only at hSw); go_simp; try (with_reducible rfl))
  (try simp only [Act.put, List.setIfInBounds_toArray, List.set_cons_zero, List.set_cons_succ, List.getElem_toArray, List.getElem_cons_zero, List.getElem_cons_succ])
  refine wpAnyH_take (i := 2) (v := ?_) rfl (by kernel_rfl) (by kernel_rfl) (by kernel_rfl) (fun _ _ _ h => h) (Or.inl ⟨by rfl, ?hy3⟩) (by assumption) ?rs3
  case hy3 => (intro w hSw; (try dsimp only at hSw); go_simp; try (with_reducible rfl))
  (try simp only [Act.put, List.setIfInBounds_toArray, List.set_cons_zero, List.set_cons_succ, List.getElem_toArray, List.getElem_cons_zero, List.getElem_cons_succ])
  refine wpAnyH_take (i := 3) (v := ?_) rfl (by kernel_rfl) (by kernel_rfl) (by kernel_rfl) (fun _ _ _ h => h) (Or.inl ⟨by rfl, ?hy4⟩) (by assumption) ?rs4
  case hy4 => (intro w hSw; (try dsimp only at hSw); go_simp; try (with_reducible rfl))
  (try simp only [Act.put, List.setIfInBounds_toArray, List.set_cons_zero, List.set_cons_succ, List.getElem_toArray, List.getElem_cons_zero, List.getElem_cons_succ])
  refine wpAnyH_call (i := 4) rfl (by kernel_rfl) (by kernel_rfl) (by kernel_rfl) (fun _ _ _ h => h) (by rfl) ?he5 (fun w hSw => (h1 _)) (by assumption) ?rs5
  case he5 => (intro w hSw; (try dsimp only at hSw); go_simp)
  (try simp only [Act.put, List.setIfInBounds_toArray, List.set_cons_zero, List.set_cons_succ, List.getElem_toArray, List.getElem_cons_zero, List.getElem_cons_succ])
  refine wpAnyH_take (i := 5) (v := ?_) rfl (by kernel_rfl) (by kernel_rfl) (by kernel_rfl) (fun _ _ _ h => h) (Or.inl ⟨by rfl, ?hy6⟩) (by assumption) ?rs6
  case hy6 => (intro w hSw; (try dsimp only at hSw); go_simp; try (with_reducible rfl))
  (try simp only [Act.put, List.setIfInBounds_toArray, List.set_cons_zero, List.set_cons_succ, List.getElem_toArray, List.getElem_cons_zero, List.getElem_cons_succ])
  refine wpAnyH_take (i := 6) (v := ?_) rfl (by kernel_rfl) (by kernel_rfl) (by kernel_rfl) (fun _ _ _ h => h) (Or.inl ⟨by rfl, ?hy7⟩) (by assumption) ?rs7
  case hy7 => (intro w hSw; (try dsimp only at hSw); go_simp; try (with_reducible rfl))
  (try simp only [Act.put, List.setIfInBounds_toArray, List.set_cons_zero, List.set_cons_succ, List.getElem_toArray, List.getElem_cons_zero, List.getElem_cons_succ])
  refine wpAnyH_take (i := 7) (v := ?_) rfl (by kernel_rfl) (by kernel_rfl) (by kernel_rfl) (fun _ _ _ h => h) (Or.inl ⟨by rfl, ?hy8⟩) (by assumption) ?rs8
  case hy8 => (intro w hSw; (try dsimp only at hSw); go_simp; try (with_reducible rfl))
  (try simp only [Act.put, List.setIfInBounds_toArray, List.set_cons_zero, List.set_cons_succ, List.getElem_toArray, List.getElem_cons_zero, List.getElem_cons_succ])
  refine wpAnyH_take (i := 8) (v := ?_) rfl (by kernel_rfl) (by kernel_rfl) (by kernel_rfl) (fun _ _ _ h => h) (Or.inl ⟨by rfl, ?hy9⟩) (by assumption) ?rs9
  case hy9 => (intro w hSw; (try dsimp only at hSw); go_simp; try (with_reducible rfl))
  (try simp only [Act.put, List.setIfInBounds_toArray, List.set_cons_zero, List.set_cons_succ, List.getElem_toArray, List.getElem_cons_zero, List.getElem_cons_succ])
  refine wpAnyH_call (i := 9) rfl (by kernel_rfl) (by kernel_rfl) (by kernel_rfl) (fun _ _ _ h => h) (by rfl) ?he10 (fun w hSw => (h2 _)) (by assumption) ?rs10
  case he10 => (intro w hSw; (try dsimp only at hSw); go_simp)
  (try simp only [Act.put, List.setIfInBounds_toArray, List.set_cons_zero, List.set_cons_succ, List.getElem_toArray, List.getElem_cons_zero, List.getElem_cons_succ])
  refine wpAnyH_ready (rs := [10]) (by kernel_rfl) (by simp) ?_
  refine AllReadyH.cons rfl (fun K hK => ?_) ?_
  · go_simp
    refine hK.out _ _ (by exact (HX.out _ (bdrew (balloc (Below.refl _ _) _)))) (fun hHeld => ?_)
    clear hK K
    (try simp only [Act.put, List.setIfInBounds_toArray, List.set_cons_zero, List.set_cons_succ, List.getElem_toArray, List.getElem_cons_zero, List.getElem_cons_succ])
    refine wpAnyH_ready (rs := [11]) (by kernel_rfl) (by simp) ?_
    refine AllReadyH.cons rfl (fun K hK => ?_) ?_
    · go_simp
      refine (c_or W.heap.size X Y _ ((Blk.new W.drew 3 [.int .i64 X, .int .i64 Y]).cell 0) ((Blk.new W.drew 3 [.int .i64 X, .int .i64 Y]).cell 1)).mono ?_
      rintro e w5 ⟨rfl, rfl⟩
      refine hK.out _ _ (by exact (HX.out _ (bdrew (balloc (Below.refl _ _) _)))) (fun hHeld => ?_)
      clear hK K
      (try simp only [Act.put, List.setIfInBounds_toArray, List.set_cons_zero, List.set_cons_succ, List.getElem_toArray, List.getElem_cons_zero, List.getElem_cons_succ])
      refine wpAnyH_take (i := 12) (v := ?_) rfl (by kernel_rfl) (by kernel_rfl) (by kernel_rfl) (fun _ _ _ h => h) (Or.inl ⟨by rfl, ?hy11⟩) (by assumption) ?rs11
      case hy11 => (intro w hSw; (try dsimp only at hSw); go_simp; try (with_reducible rfl))
      (try simp only [Act.put, List.setIfInBounds_toArray, List.set_cons_zero, List.set_cons_succ, List.getElem_toArray, List.getElem_cons_zero, List.getElem_cons_succ])
      refine wpAnyH_done (by kernel_rfl) ?_ _
      go_wp2_with fail
      go_ret
      exact ⟨rfl, HG2.out.drew.alloc _⟩
    · exact AllReadyH.nil
  · exact AllReadyH.nil
set_option linter.unusedSimpArgs false in
set_option maxRecDepth 100000 in
set_option maxHeartbeats 4000000 in
theorem c_pbefore (a b : Rc) (w : World) : Calls Tryz.prog 46 #[rcV a, rcV b] w fun e w' => e = .returned (.int .i64 (bfZ a b)) ∧ GW w w' := by
  have HG := hide (((GW.refl w).alloc (.cells (cR a).toArray 49)).alloc (.cells (cR b).toArray 49))
  have gA := (Blk.new w 49 (cR a)).alloc (.cells (cR b).toArray 49)
  have gB := Blk.new (w.alloc (.cells (cR a).toArray 49)) 49 (cR b)
  rw [show (w.alloc (.cells (cR a).toArray 49)).heap.size = w.heap.size + 1 from by simp] at gB
  unfold bfZ
  have h1 := fun W => c_compare a.at_ b.at_ W
  have h2 := fun W => c_plisted a b W
  generalize cmpZ a.at_ b.at_ = X at *
  generalize lsZ a b = Y at *
  obtain ⟨p, n, t, o, wh, k, tx⟩ := a
  obtain ⟨q, m, t2, o2, wh2, k2, tx2⟩ := b
  unfold cR at HG gA gB
  unfold rcV at h2 ⊢
  dsimp only at HG gA gB h1 h2 ⊢
  go_enter Tryz.func46, Tryz.ntmps46
  go_wp2_with fail
  generalize hW : (w.alloc (.cells #[.int .i64 p, .int .i64 n, .int .i64 t, .int .i64 o, .int .i64 wh, .int .i64 k, .string tx] 49)).alloc (.cells #[.int .i64 q, .int .i64 m, .int .i64 t2, .int .i64 o2, .int .i64 wh2, .int .i64 k2, .string tx2] 49) = W
  have HG2 : Hid (GW w W) := by rw [← hW]; exact HG
  have gA2 : Blk W w.heap.size 49 (cR ⟨p, n, t, o, wh, k, tx⟩) := by rw [← hW]; exact gA
  have gB2 : Blk W (w.heap.size + 1) 49 (cR ⟨q, m, t2, o2, wh2, k2, tx2⟩) := by rw [← hW]; exact gB
  clear hW gA gB HG
  have HX : Hid (∀ W', Below W.heap.size W W' → W'.cell? ⟨w.heap.size, 0, none⟩ = some (.int .i64 p) ∧ W'.cell? ⟨w.heap.size, 1, none⟩ = some (.int .i64 n) ∧ W'.cell? ⟨w.heap.size, 2, none⟩ = some (.int .i64 t) ∧ W'.cell? ⟨w.heap.size, 3, none⟩ = some (.int .i64 o) ∧ W'.cell? ⟨w.heap.size, 4, none⟩ = some (.int .i64 wh) ∧ W'.cell? ⟨w.heap.size, 5, none⟩ = some (.int .i64 k) ∧ W'.cell? ⟨w.heap.size, 6, none⟩ = some (.string tx) ∧ W'.cell? ⟨w.heap.size + 1, 0, none⟩ = some (.int .i64 q) ∧ W'.cell? ⟨w.heap.size + 1, 1, none⟩ = some (.int .i64 m) ∧ W'.cell? ⟨w.heap.size + 1, 2, none⟩ = some (.int .i64 t2) ∧ W'.cell? ⟨w.heap.size + 1, 3, none⟩ = some (.int .i64 o2) ∧ W'.cell? ⟨w.heap.size + 1, 4, none⟩ = some (.int .i64 wh2) ∧ W'.cell? ⟨w.heap.size + 1, 5, none⟩ = some (.int .i64 k2) ∧ W'.cell? ⟨w.heap.size + 1, 6, none⟩ = some (.string tx2)) := hide (fun W' h => ⟨(gA2.below h gA2.lt).cell 0, (gA2.below h gA2.lt).cell 1, (gA2.below h gA2.lt).cell 2, (gA2.below h gA2.lt).cell 3, (gA2.below h gA2.lt).cell 4, (gA2.below h gA2.lt).cell 5, (gA2.below h gA2.lt).cell 6, (gB2.below h gB2.lt).cell 0, (gB2.below h gB2.lt).cell 1, (gB2.below h gB2.lt).cell 2, (gB2.below h gB2.lt).cell 3, (gB2.below h gB2.lt).cell 4, (gB2.below h gB2.lt).cell 5, (gB2.below h gB2.lt).cell 6⟩)
  clear gA2 gB2
  refine wp_region_held_drew (S := fun W' => W'.cell? ⟨w.heap.size, 0, none⟩ = some (.int .i64 p) ∧ W'.cell? ⟨w.heap.size, 1, none⟩ = some (.int .i64 n) ∧ W'.cell? ⟨w.heap.size, 2, none⟩ = some (.int .i64 t) ∧ W'.cell? ⟨w.heap.size, 3, none⟩ = some (.int .i64 o) ∧ W'.cell? ⟨w.heap.size, 4, none⟩ = some (.int .i64 wh) ∧ W'.cell? ⟨w.heap.size, 5, none⟩ = some (.int .i64 k) ∧ W'.cell? ⟨w.heap.size, 6, none⟩ = some (.string tx) ∧ W'.cell? ⟨w.heap.size + 1, 0, none⟩ = some (.int .i64 q) ∧ W'.cell? ⟨w.heap.size + 1, 1, none⟩ = some (.int .i64 m) ∧ W'.cell? ⟨w.heap.size + 1, 2, none⟩ = some (.int .i64 t2) ∧ W'.cell? ⟨w.heap.size + 1, 3, none⟩ = some (.int .i64 o2) ∧ W'.cell? ⟨w.heap.size + 1, 4, none⟩ = some (.int .i64 wh2) ∧ W'.cell? ⟨w.heap.size + 1, 5, none⟩ = some (.int .i64 k2) ∧ W'.cell? ⟨w.heap.size + 1, 6, none⟩ = some (.string tx2)) (by kernel_rfl) (HX.out _ (bdrew (Below.refl _ _))) (fun hHeld => ?_)
  refine wpAnyH_take (i := 0) (v := ?_) rfl (by kernel_rfl) (by kernel_rfl) (by kernel_rfl) (fun _ _ _ h => h) (Or.inl ⟨by rfl, ?hy12⟩) (by assumption) ?rs12
  case hy12 => (intro w hSw; (try dsimp only at hSw); go_simp; try (with_reducible rfl))
  (try simp only [Act.put, List.setIfInBounds_toArray, List.set_cons_zero, List.set_cons_succ, List.getElem_toArray, List.getElem_cons_zero, List.getElem_cons_succ])
  refine wpAnyH_take (i := 1) (v := ?_) rfl (by kernel_rfl) (by kernel_rfl) (by kernel_rfl) (fun _ _ _ h => h) (Or.inl ⟨by rfl, ?hy13⟩) (by assumption) ?rs13
  case hy13 => (intro w hSw; (try dsimp only at hSw); go_simp; try (with_reducible rfl))
  (try simp only [Act.put, List.setIfInBounds_toArray, List.set_cons_zero, List.set_cons_succ, List.getElem_toArray, List.getElem_cons_zero, List.getElem_cons_succ])
  refine wpAnyH_take (i := 2) (v := ?_) rfl (by kernel_rfl) (by kernel_rfl) (by kernel_rfl) (fun _ _ _ h => h) (Or.inl ⟨by rfl, ?hy14⟩) (by assumption) ?rs14
  case hy14 => (intro w hSw; (try dsimp only at hSw); go_simp; try (with_reducible rfl))
  (try simp only [Act.put, List.setIfInBounds_toArray, List.set_cons_zero, List.set_cons_succ, List.getElem_toArray, List.getElem_cons_zero, List.getElem_cons_succ])
  refine wpAnyH_take (i := 3) (v := ?_) rfl (by kernel_rfl) (by kernel_rfl) (by kernel_rfl) (fun _ _ _ h => h) (Or.inl ⟨by rfl, ?hy15⟩) (by assumption) ?rs15
  case hy15 => (intro w hSw; (try dsimp only at hSw); go_simp; try (with_reducible rfl))
  (try simp only [Act.put, List.setIfInBounds_toArray, List.set_cons_zero, List.set_cons_succ, List.getElem_toArray, List.getElem_cons_zero, List.getElem_cons_succ])
  refine wpAnyH_call (i := 4) rfl (by kernel_rfl) (by kernel_rfl) (by kernel_rfl) (fun _ _ _ h => h) (by rfl) ?he16 (fun w hSw => (h1 _)) (by assumption) ?rs16
  case he16 => (intro w hSw; (try dsimp only at hSw); go_simp)
  (try simp only [Act.put, List.setIfInBounds_toArray, List.set_cons_zero, List.set_cons_succ, List.getElem_toArray, List.getElem_cons_zero, List.getElem_cons_succ])
  refine wpAnyH_take (i := 5) (v := ?_) rfl (by kernel_rfl) (by kernel_rfl) (by kernel_rfl) (fun _ _ _ h => h) (Or.inl ⟨by rfl, ?hy17⟩) (by assumption) ?rs17
  case hy17 => (intro w hSw; (try dsimp only at hSw); go_simp; try (with_reducible rfl))
  (try simp only [Act.put, List.setIfInBounds_toArray, List.set_cons_zero, List.set_cons_succ, List.getElem_toArray, List.getElem_cons_zero, List.getElem_cons_succ])
  refine wpAnyH_take (i := 6) (v := ?_) rfl (by kernel_rfl) (by kernel_rfl) (by kernel_rfl) (fun _ _ _ h => h) (Or.inl ⟨by rfl, ?hy18⟩) (by assumption) ?rs18
  case hy18 => (intro w hSw; (try dsimp only at hSw); go_simp; try (with_reducible rfl))
  (try simp only [Act.put, List.setIfInBounds_toArray, List.set_cons_zero, List.set_cons_succ, List.getElem_toArray, List.getElem_cons_zero, List.getElem_cons_succ])
  refine wpAnyH_ready (rs := [7]) (by kernel_rfl) (by simp) ?_
  refine AllReadyH.cons rfl (fun K hK => ?_) ?_
  · go_simp
    refine (h2 _).mono ?_
    rintro e w4 ⟨rfl, hg4⟩
    have HG4 := hide (GW.trans (GW.drew (GW.refl W)) hg4)
    clear hg4
    refine hK.out _ _ (by exact (HX.out _ HG4.out.below)) (fun hHeld => ?_)
    clear hK K
    (try simp only [Act.put, List.setIfInBounds_toArray, List.set_cons_zero, List.set_cons_succ, List.getElem_toArray, List.getElem_cons_zero, List.getElem_cons_succ])
    refine wpAnyH_ready (rs := [8]) (by kernel_rfl) (by simp) ?_
    refine AllReadyH.cons rfl (fun K hK => ?_) ?_
    · go_simp
      refine hK.out _ _ (by exact (HX.out _ (balloc HG4.out.below _))) (fun hHeld => ?_)
      clear hK K
      (try simp only [Act.put, List.setIfInBounds_toArray, List.set_cons_zero, List.set_cons_succ, List.getElem_toArray, List.getElem_cons_zero, List.getElem_cons_succ])
      refine wpAnyH_ready (rs := [9]) (by kernel_rfl) (by simp) ?_
      refine AllReadyH.cons rfl (fun K hK => ?_) ?_
      · go_simp
        refine (c_or w4.heap.size X Y _ ((Blk.new w4 3 [.int .i64 X, .int .i64 Y]).cell 0) ((Blk.new w4 3 [.int .i64 X, .int .i64 Y]).cell 1)).mono ?_
        rintro e w5 ⟨rfl, rfl⟩
        refine hK.out _ _ (by exact (HX.out _ (balloc HG4.out.below _))) (fun hHeld => ?_)
        clear hK K
        (try simp only [Act.put, List.setIfInBounds_toArray, List.set_cons_zero, List.set_cons_succ, List.getElem_toArray, List.getElem_cons_zero, List.getElem_cons_succ])
        refine wpAnyH_take (i := 10) (v := ?_) rfl (by kernel_rfl) (by kernel_rfl) (by kernel_rfl) (fun _ _ _ h => h) (Or.inl ⟨by rfl, ?hy19⟩) (by assumption) ?rs19
        case hy19 => (intro w hSw; (try dsimp only at hSw); go_simp; try (with_reducible rfl))
        (try simp only [Act.put, List.setIfInBounds_toArray, List.set_cons_zero, List.set_cons_succ, List.getElem_toArray, List.getElem_cons_zero, List.getElem_cons_succ])
        refine wpAnyH_done (by kernel_rfl) ?_ _
        go_wp2_with fail
        go_ret
        exact ⟨rfl, HG2.out.trans (HG4.out.alloc _)⟩
      · exact AllReadyH.nil
    · exact AllReadyH.nil
  · exact AllReadyH.nil
end Go.Proofs.YtcfbgelhggapjaaGreatDoor
