/- Plain words on memory that all walks of this seat share: a slice that reads as a list of cells, and how it is kept. -/
import Derived.WalkKit
import Derived.WalkSpells
import Derived.WalkLawsBesides
import Derived.Maps.AppendAt
import Derived.Laws.AppendOwnNone
import Derived.RegionTactic
import Derived.BigQuiet
namespace Go.Proofs.YtcfbgelhggapjaaGreatDoor
open Go.RowKit

theorem flat_get {α : Type} (enc : α → List Value) (m : Nat) (hm : ∀ a, (enc a).length = m) :
    ∀ (l : List α) (k : Nat) (hk : k < l.length) (j : Nat), j < m → (l.flatMap enc)[k * m + j]? = (enc l[k])[j]?
  | [], k, hk, _, _ => absurd hk (by simp)
  | x :: l, 0, _, j, hj => by
    simp only [List.flatMap_cons, Nat.zero_mul, Nat.zero_add, List.getElem_cons_zero]
    rw [List.getElem?_append_left (by rw [hm]; exact hj)]
  | x :: l, k + 1, hk, j, hj => by
    have ih := flat_get enc m hm l k (by simpa using hk) j hj
    simp only [List.flatMap_cons, List.getElem_cons_succ]
    rw [List.getElem?_append_right (by rw [hm, Nat.succ_mul]; omega), hm, ← ih]
    congr 1
    rw [Nat.succ_mul]; omega

theorem flat_len {α : Type} (enc : α → List Value) (m : Nat) (hm : ∀ a, (enc a).length = m) : ∀ (l : List α), (l.flatMap enc).length = l.length * m
  | [] => by simp
  | x :: l => by simp only [List.flatMap_cons, List.length_append, hm, flat_len enc m hm l, List.length_cons, Nat.succ_mul]; omega

/-- The slice 'A, n' (k cells an element) holds the cells xs, below block B. -/
def SlR (w : World) (B k : Nat) (A : Option Addr) (n : Nat) (xs : List Value) : Prop :=
  xs.length = n * k ∧ (0 < n → ∃ b off, A = some ⟨b, off, none⟩ ∧ b < B ∧ ∀ j u, xs[j]? = some u → w.cell? ⟨b, off + j, none⟩ = some u)

section
variable {w w' : World} {B B' k n : Nat} {A : Option Addr} {xs : List Value}
theorem SlR.keep (h : SlR w B k A n xs) (hk : ∀ p : Addr, p.block < B → w'.cell? p = w.cell? p) : SlR w' B k A n xs :=
  ⟨h.1, fun hn => by
    obtain ⟨b, off, e, hb, hc⟩ := h.2 hn
    exact ⟨b, off, e, hb, fun j u hu => (hk ⟨b, off + j, none⟩ hb).trans (hc j u hu)⟩⟩
theorem SlR.more (h : SlR w B k A n xs) (hB : B ≤ B') : SlR w B' k A n xs :=
  ⟨h.1, fun hn => by
    obtain ⟨b, off, e, hb, hc⟩ := h.2 hn
    exact ⟨b, off, e, by omega, hc⟩⟩
theorem SlR.below (h : SlR w B k A n xs) (hb : Below B w w') : SlR w' B k A n xs := h.keep fun _ hp => hb.cell hp
theorem SlR.nil : SlR w B k A 0 [] := ⟨by simp, fun h => absurd h (by omega)⟩
theorem SlR.zero (h : SlR w B k A n xs) (hn : n = 0) : xs = [] := List.eq_nil_of_length_eq_zero (by rw [h.1, hn]; simp)
/-- a cut 's[:m]' -/
theorem SlR.upto (h : SlR w B k A n xs) {m : Nat} (hm : m ≤ n) : SlR w B k A m (xs.take (m * k)) := by
  refine ⟨by rw [List.length_take, h.1, Nat.min_eq_left (Nat.mul_le_mul_right _ hm)], fun h0 => ?_⟩
  obtain ⟨b, off, e, hb, hc⟩ := h.2 (by omega)
  refine ⟨b, off, e, hb, fun j u hu => hc j u ?_⟩
  rw [List.getElem?_take] at hu
  split at hu
  · exact hu
  · cases hu
theorem slr3 {w : World} {g B : Nat} {x y z : Value} (h0 : w.cell? ⟨g, 0, none⟩ = some x) (h1 : w.cell? ⟨g, 1, none⟩ = some y) (h2 : w.cell? ⟨g, 2, none⟩ = some z) (hB : g < B) :
    SlR w B 1 (some ⟨g, 0, none⟩) 3 [x, y, z] := by
  refine ⟨by simp, fun _ => ⟨g, 0, rfl, hB, fun j u hu => ?_⟩⟩
  match j, hu with
  | 0, hu => simp at hu; subst hu; exact h0
  | 1, hu => simp at hu; subst hu; exact h1
  | 2, hu => simp at hu; subst hu; exact h2
theorem SlR.of_own {base : Nat} {e : TypeId} {v : Value} (h : w.ownsRow base e k v n xs) : ∃ A c, v = .slice A n c ∧ n ≤ c ∧ c ≤ maxLen ∧ SlR w w.heap.size k A n xs := by
  rcases h.2 with ⟨rfl, rfl⟩ | ⟨g, cap, cur, rfl, hb, hg, hn, hc, hs, ht⟩
  · exact ⟨none, 0, rfl, Nat.le_refl _, Nat.zero_le _, h.1, fun h0 => absurd h0 (by omega)⟩
  · refine ⟨_, cap, rfl, hn, hc, h.1, fun _ => ⟨g, 0, rfl, (Array.getElem?_eq_some_iff.1 hg).1, fun j u hu => ?_⟩⟩
    have := h.cells (g := g) rfl j u hu
    have e : (⟨g, 0, none⟩ : Addr).add j = ⟨g, 0 + j, none⟩ := by unfold Addr.add; split <;> simp_all
    rw [e] at this
    exact this
end

abbrev I2 := Int × Int
abbrev I3 := Int × Int × Int
abbrev I4 := Int × Int × Int × Int
def c2 (s : I2) : List Value := [.int .i64 s.1, .int .i64 s.2]
def c3 (s : I3) : List Value := [.int .i64 s.1, .int .i64 s.2.1, .int .i64 s.2.2]
def c4 (s : I4) : List Value := [.int .i64 s.1, .int .i64 s.2.1, .int .i64 s.2.2.1, .int .i64 s.2.2.2]

section
variable {w wr : World} {B : Nat} {A : Option Addr}
theorem SlR.at3 {l : List I3} (h : SlR w B 3 A l.length (l.flatMap c3)) (hb : Below B w wr) {k : Nat} (hk : k < l.length) :
    ∃ b off, A = some ⟨b, off, none⟩ ∧ b < B ∧ wr.cell? ⟨b, off + k * 3, none⟩ = some (.int .i64 l[k].1) ∧ wr.cell? ⟨b, off + k * 3 + 1, none⟩ = some (.int .i64 l[k].2.1) ∧ wr.cell? ⟨b, off + k * 3 + 2, none⟩ = some (.int .i64 l[k].2.2) := by
  obtain ⟨b, off, e, hbb, hc⟩ := h.2 (by omega)
  have g := flat_get c3 3 (fun _ => rfl) l k hk
  refine ⟨b, off, e, hbb, ?_, ?_, ?_⟩
  · exact (hb.cell (p := ⟨b, _, none⟩) hbb).trans (hc (k * 3) _ (g 0 (by omega)))
  · exact (hb.cell (p := ⟨b, _, none⟩) hbb).trans (hc (k * 3 + 1) _ (by simpa [c3] using g 1 (by omega)))
  · exact (hb.cell (p := ⟨b, _, none⟩) hbb).trans (hc (k * 3 + 2) _ (by simpa [c3] using g 2 (by omega)))
theorem SlR.at2 {l : List I2} (h : SlR w B 2 A l.length (l.flatMap c2)) (hb : Below B w wr) {k : Nat} (hk : k < l.length) :
    ∃ b off, A = some ⟨b, off, none⟩ ∧ b < B ∧ wr.cell? ⟨b, off + k * 2, none⟩ = some (.int .i64 l[k].1) ∧ wr.cell? ⟨b, off + k * 2 + 1, none⟩ = some (.int .i64 l[k].2) := by
  obtain ⟨b, off, e, hbb, hc⟩ := h.2 (by omega)
  have g := flat_get c2 2 (fun _ => rfl) l k hk
  refine ⟨b, off, e, hbb, ?_, ?_⟩
  · exact (hb.cell (p := ⟨b, _, none⟩) hbb).trans (hc (k * 2) _ (g 0 (by omega)))
  · exact (hb.cell (p := ⟨b, _, none⟩) hbb).trans (hc (k * 2 + 1) _ (by simpa [c2] using g 1 (by omega)))
theorem SlR.at4 {l : List I4} (h : SlR w B 4 A l.length (l.flatMap c4)) (hb : Below B w wr) {k : Nat} (hk : k < l.length) :
    ∃ b off, A = some ⟨b, off, none⟩ ∧ b < B ∧ wr.cell? ⟨b, off + k * 4, none⟩ = some (.int .i64 l[k].1) ∧ wr.cell? ⟨b, off + k * 4 + 1, none⟩ = some (.int .i64 l[k].2.1) ∧
      wr.cell? ⟨b, off + k * 4 + 2, none⟩ = some (.int .i64 l[k].2.2.1) ∧ wr.cell? ⟨b, off + k * 4 + 3, none⟩ = some (.int .i64 l[k].2.2.2) := by
  obtain ⟨b, off, e, hbb, hc⟩ := h.2 (by omega)
  have g := flat_get c4 4 (fun _ => rfl) l k hk
  refine ⟨b, off, e, hbb, ?_, ?_, ?_, ?_⟩
  · exact (hb.cell (p := ⟨b, _, none⟩) hbb).trans (hc (k * 4) _ (g 0 (by omega)))
  · exact (hb.cell (p := ⟨b, _, none⟩) hbb).trans (hc (k * 4 + 1) _ (by simpa [c4] using g 1 (by omega)))
  · exact (hb.cell (p := ⟨b, _, none⟩) hbb).trans (hc (k * 4 + 2) _ (by simpa [c4] using g 2 (by omega)))
  · exact (hb.cell (p := ⟨b, _, none⟩) hbb).trans (hc (k * 4 + 3) _ (by simpa [c4] using g 3 (by omega)))
end

theorem bcell {W w1 : World} {B : Nat} (hb : Below B W w1) : (∀ b o, b < B → w1.cell? ⟨b, o, none⟩ = W.cell? ⟨b, o, none⟩) ∧ (∀ b o, b < B → w1.frozen? ⟨b, o, none⟩ = W.frozen? ⟨b, o, none⟩) :=
  ⟨fun b o h => hb.cell (p := ⟨b, o, none⟩) h, fun b o h => hb.frozen (p := ⟨b, o, none⟩) h⟩
theorem below_drewN {B : Nat} {a w : World} (h : Below B a w) (n : Nat) : Below B a (w.drewN n) := ⟨h.os, h.tape, h.output, h.size, h.block⟩
theorem balloc {a w : World} (h : Below a.heap.size a w) (o : Obj) : Below a.heap.size a (w.alloc o) := h.alloc h.size o
theorem bset {a w : World} (h : Below a.heap.size a w) {p : Addr} (hp : a.heap.size ≤ p.block) (u : Value) : Below a.heap.size a (w.setCell p u) := h.setCell hp u
theorem bdrew {a w : World} (h : Below a.heap.size a w) : Below a.heap.size a w.drew := h.drew
theorem bthen {a w w' : World} (h : Below a.heap.size a w) (k : Below w.heap.size w w') : Below a.heap.size a w' := h.trans (k.mono h.size)
theorem bgrown {a w w' : World} {row : Option Nat} (h : Below a.heap.size a w) (hg : w.grownBy w' row) (hr : ∀ k, row = some k → a.heap.size ≤ k) : Below a.heap.size a w' := h.grown hg h.size hr
/-- Block g of w is just these cells, none frozen. -/
def Blk (w : World) (g : Nat) (t : TypeId) (cs : List Value) : Prop := w.heap[g]? = some (.cells cs.toArray t (0, 0))
section
variable {w w' : World} {g : Nat} {t : TypeId} {cs : List Value}
theorem Blk.lt (h : Blk w g t cs) : g < w.heap.size := (Array.getElem?_eq_some_iff.1 h).1
theorem Blk.same (h : Blk w g t cs) (hk : w'.heap[g]? = w.heap[g]?) : Blk w' g t cs := hk.trans h
theorem Blk.alloc (h : Blk w g t cs) (o : Obj) : Blk (w.alloc o) g t cs := h.same (Below.heap_alloc w o g h.lt)
theorem Blk.drew (h : Blk w g t cs) : Blk w.drew g t cs := h
theorem Blk.drewN (h : Blk w g t cs) (n : Nat) : Blk (w.drewN n) g t cs := h
theorem Blk.below {B : Nat} (h : Blk w g t cs) (hb : Below B w w') (hB : g < B) : Blk w' g t cs := h.same (hb.block g hB)
theorem Blk.grown {row : Option Nat} (h : Blk w g t cs) (hg : w.grownBy w' row) (hr : row ≠ some g) : Blk w' g t cs := h.same (hg.block g h.lt (fun e => hr e.symm))
theorem Blk.other (h : Blk w g t cs) {p : Addr} (hp : g ≠ p.block) (u : Value) : Blk (w.setCell p u) g t cs := h.same (Below.heap_setCell w p u g hp)
theorem Blk.set (h : Blk w g t cs) (i : Nat) (u : Value) : Blk (w.setCell ⟨g, i, none⟩ u) g t (cs.set i u) := by
  unfold Blk
  rw [heap_setCell_same w g i _ t u h]
  simp
theorem Blk.new (w : World) (t : TypeId) (cs : List Value) : Blk (w.alloc (.cells cs.toArray t)) w.heap.size t cs := heap_alloc_new w _
theorem Blk.cell (h : Blk w g t cs) (i : Nat) : w.cell? ⟨g, i, none⟩ = cs[i]? := by
  rw [cell_of_row w g i _ t (0, 0) h]
  simp
theorem Blk.all1 {a : Value} (h : Blk w g t [a]) : w.cell? ⟨g, 0, none⟩ = some a ∧ w.frozen? ⟨g, 0, none⟩ = false :=
  ⟨by rw [cell_of_row w g 0 _ t (0, 0) h]; rfl, frozen_of_row w g 0 _ t h⟩
theorem Blk.all2 {a b : Value} (h : Blk w g t [a, b]) : w.cell? ⟨g, 0, none⟩ = some a ∧ w.cell? ⟨g, 1, none⟩ = some b ∧ w.frozen? ⟨g, 0, none⟩ = false ∧ w.frozen? ⟨g, 1, none⟩ = false :=
  ⟨by rw [cell_of_row w g 0 _ t (0, 0) h]; rfl, by rw [cell_of_row w g 1 _ t (0, 0) h]; rfl, frozen_of_row w g 0 _ t h, frozen_of_row w g 1 _ t h⟩
theorem Blk.all3 {a b c : Value} (h : Blk w g t [a, b, c]) : w.cell? ⟨g, 0, none⟩ = some a ∧ w.cell? ⟨g, 1, none⟩ = some b ∧ w.cell? ⟨g, 2, none⟩ = some c ∧ w.frozen? ⟨g, 0, none⟩ = false ∧ w.frozen? ⟨g, 1, none⟩ = false ∧ w.frozen? ⟨g, 2, none⟩ = false :=
  ⟨by rw [cell_of_row w g 0 _ t (0, 0) h]; rfl, by rw [cell_of_row w g 1 _ t (0, 0) h]; rfl, by rw [cell_of_row w g 2 _ t (0, 0) h]; rfl, frozen_of_row w g 0 _ t h, frozen_of_row w g 1 _ t h, frozen_of_row w g 2 _ t h⟩
theorem Blk.all4 {a b c d : Value} (h : Blk w g t [a, b, c, d]) : w.cell? ⟨g, 0, none⟩ = some a ∧ w.cell? ⟨g, 1, none⟩ = some b ∧ w.cell? ⟨g, 2, none⟩ = some c ∧ w.cell? ⟨g, 3, none⟩ = some d :=
  ⟨by rw [cell_of_row w g 0 _ t (0, 0) h]; rfl, by rw [cell_of_row w g 1 _ t (0, 0) h]; rfl, by rw [cell_of_row w g 2 _ t (0, 0) h]; rfl, by rw [cell_of_row w g 3 _ t (0, 0) h]; rfl⟩
theorem Blk.free (h : Blk w g t cs) (i : Nat) : w.frozen? ⟨g, i, none⟩ = false := frozen_of_row w g i _ t h
end

theorem hide {p : Prop} (h : p) : Hid p := h
theorem ret_int {k : IntKind} {a b : Int} (h : a = b) : Ending.returned (.int k a) = .returned (.int k b) := by rw [h]
theorem ret_bool {a b : Bool} (h : a = b) : Ending.returned (.bool a) = .returned (.bool b) := by rw [h]

def inB (n lo hi : Int) : Bool := decide (lo ≤ n) && decide (n ≤ hi)
theorem inB_iff {n lo hi : Int} : inB n lo hi = true ↔ lo ≤ n ∧ n ≤ hi := by simp [inB]
end Go.Proofs.YtcfbgelhggapjaaGreatDoor
/- Plain words on slices: a cut of a slice, and an append of what a slice holds, nil or not, empty or not. -/
namespace Go.Proofs.YtcfbgelhggapjaaGreatDoor
open Go.RowKit
theorem addr_add (b off j : Nat) : (⟨b, off, none⟩ : Addr).add j = ⟨b, off + j, none⟩ := by unfold Addr.add; split <;> simp_all
section
variable {P : Program} {w0 : World} {B size n c : Nat} {A : Option Addr} {xs : List Value}
theorem SlR.drop (h : SlR w0 B size A n xs) {k : Nat} (hk : k ≤ n) (m : Nat) : SlR w0 B size (if m = k then A else A.map (·.add (k * size))) (n - k) (xs.drop (k * size)) ∨ m = k ∧ k < n := by
  by_cases hm : m = k ∧ k < n
  · exact .inr hm
  · refine .inl ⟨by rw [List.length_drop, h.1, ← Nat.sub_mul], fun hn => ?_⟩
    obtain ⟨b, off, rfl, hb, hc⟩ := h.2 (by omega)
    have hmk : m ≠ k := by omega
    rw [if_neg hmk]
    refine ⟨b, off + k * size, by simp [addr_add], hb, fun j u hu => ?_⟩
    rw [List.getElem?_drop] at hu
    have := hc (k * size + j) u hu
    rw [← Nat.add_assoc] at this
    exact this
/-- 's[k:]' -/
theorem SlR.cutLo (h : SlR w0 B size A n xs) (hnc : n ≤ c) {k : Nat} (hk : k ≤ n) (t e : TypeId) (i : TypeInfo) (ht : P.underlying t = some (.slice e)) (hi : P.info? e = some i) (hs : i.size = size) :
    ∃ A', SlR w0 B size A' (n - k) (xs.drop (k * size)) ∧ ∀ w, (Instr.slice t (.slice A n c) (some (.int .i64 (k : Int))) none none).run P w = .ok (.slice A' (n - k) (c - k)) w := by
  refine ⟨if c = k then A else A.map (·.add (k * size)), ?_, fun w => ?_⟩
  · rcases h.drop hk c with h1 | ⟨h1, h2⟩
    · exact h1
    · omega
  · have he : P.elem t = e := by simp [Program.elem, ht]
    have h1 : P.underlying t = some (.slice (P.elem t)) := by rw [he]; exact ht
    rw [run_slice_l w t A n c h1 .i64 k (by omega) (by omega), he]
    subst hs
    simp [sizeOf, typeInfo, hi, Result.andThen, sliced]
/-- 's[:k]' -/
theorem SlR.cutHi (h : SlR w0 B size A n xs) (hnc : n ≤ c) {k : Nat} (hk : k ≤ n) (t e : TypeId) (i : TypeInfo) (ht : P.underlying t = some (.slice e)) (hi : P.info? e = some i) :
    ∃ A', SlR w0 B size A' k (xs.take (k * size)) ∧ ∀ w, (Instr.slice t (.slice A n c) none (some (.int .i64 (k : Int))) none).run P w = .ok (.slice A' k c) w := by
  refine ⟨A, h.upto hk, fun w => ?_⟩
  have he : P.elem t = e := by simp [Program.elem, ht]
  have h1 : P.underlying t = some (.slice (P.elem t)) := by rw [he]; exact ht
  rw [run_slice_h w t A n c h1 .i64 k (by omega) (by omega), he]
  simp [sizeOf, typeInfo, hi, Result.andThen, sliced]
  rintro _
  cases A with
  | none => rfl
  | some a => obtain ⟨b, off, sp⟩ := a; simp [Addr.add]
theorem run_append_sl {w : World} (base : Nat) (t ty e : TypeId) (i : TypeInfo) (z : Value) (bytes : Nat) (ht : P.underlying t = some (.slice e)) (hi : P.info? e = some i) (hz : i.zero = some z)
    (hsize : i.size = size) (hby : i.bytes = bytes) (hzs : z.cells.size = size) (hsz : 0 < size)
    (v : Value) (n : Nat) (xs : List Value) (hown : w.ownsRow base e size v n xs)
    (m c : Nat) (news : List Value) (hsl : SlR w0 B size A m news) (hbl : Below B w0 w) (h1 : ∀ u ∈ news, u.oneCell' = true)
    (h63 : n + m ≤ maxLen) (hbytes : (n + m) * bytes ≤ 140737488355328) (hbase : base ≤ w.heap.size) :
    ∃ v' w', (Builtin.append_ #[t, t] ty #[v, .slice A m c]).run P w = .ok v' w' ∧ w'.ownsRow base e size v' (n + m) (xs ++ news) ∧ w.grownBy w' v.ownBlock ∧ (v'.ownBlock = v.ownBlock ∨ v'.ownBlock = some w.heap.size) := by
  cases A with
  | none =>
    have hm : m = 0 := by
      rcases Nat.eq_zero_or_pos m with h | h
      · exact h
      · obtain ⟨_, _, he, _⟩ := hsl.2 h; cases he
    subst hm
    have hnil := hsl.zero rfl
    subst hnil
    refine ⟨v, w, ?_, by simpa using hown, ⟨rfl, rfl, rfl, Nat.le_refl _, fun _ _ _ => rfl⟩, .inl rfl⟩
    rcases hown.2 with ⟨rfl, rfl⟩ | ⟨g, cap, cur, rfl, _, _, hnc, _⟩
    · simp [Builtin.append_, run_underlying ht, sizeOf, typeInfo, hi, Builtin.lenOf, Builtin.firstCells]
    · simp [Builtin.append_, run_underlying ht, sizeOf, typeInfo, hi, Builtin.lenOf, Builtin.firstCells, hnc, storeCells]
  | some a =>
    have hnews : ∀ j u, news[j]? = some u → w.cell? (a.add j) = some u := by
      intro j u hu
      have hlt := (List.getElem?_eq_some_iff.1 hu).1
      rw [hsl.1] at hlt
      obtain ⟨b, off, he, hb, hc⟩ := hsl.2 (Nat.pos_of_ne_zero (fun h => by simp [h] at hlt))
      cases he
      rw [addr_add]
      exact (hbl.cell (p := ⟨b, _, none⟩) hb).trans (hc j u hu)
    obtain ⟨v', w', r1, r2, r3, _, r5⟩ := run_append_own_at (P := P) w base t ty e i z size bytes ht hi hz hsize hby hzs hsz v n xs hown a m c news hsl.1 hnews h1 h63 hbytes hbase
    exact ⟨v', w', r1, r2, r3, r5⟩
theorem wp_append_sl {w : World} {o : Oper} {a : Act} {K : Act → World → Prop} {Q : Exit → Act → World → Prop} (s x : Operand) (t : TypeId)
    (ho : o.op = .call { callee := .builtin .append, args := #[s, x], argTypes := #[t, t] })
    (base : Nat) (e : TypeId) (i : TypeInfo) (z : Value) (bytes : Nat) (ht : P.underlying t = some (.slice e)) (hi : P.info? e = some i) (hz : i.zero = some z)
    (hsize : i.size = size) (hby : i.bytes = bytes) (hzs : z.cells.size = size) (hsz : 0 < size)
    (v : Value) (n : Nat) (xs : List Value) (hs : a.eval s = v) (hown : w.ownsRow base e size v n xs)
    (m c : Nat) (news : List Value) (hx : a.eval x = .slice A m c) (hsl : SlR w0 B size A m news) (hbl : Below B w0 w) (h1 : ∀ u ∈ news, u.oneCell' = true)
    (h63 : n + m ≤ maxLen) (hbytes : (n + m) * bytes ≤ 140737488355328) (hbase : base ≤ w.heap.size)
    (h : ∀ v' w', w'.ownsRow base e size v' (n + m) (xs ++ news) → w.grownBy w' v.ownBlock → (v'.ownBlock = v.ownBlock ∨ v'.ownBlock = some w.heap.size) → K (a.put o.dst v') w') : o.wp P a w K Q := by
  obtain ⟨v', w', hr, h2, h3, h4⟩ := run_append_sl (P := P) (w := w) base t o.type e i z bytes ht hi hz hsize hby hzs hsz v n xs hown m c news hsl hbl h1 h63 hbytes hbase
  unfold Oper.wp execOp
  simp only [ho, resolve, invoke, builtin, Sem.run_bind, Sem.run_pure, Result.andThen_ok, List.map_toArray, List.map_cons, List.map_nil, hs, hx, hr]
  exact h v' w' h2 h3 h4
/-- at the list of a plain region's operations -/
theorem wpList_append_sl {w : World} {ops : Array Oper} {rest : List Oper} {o : Oper} {a : Act} {Q : Exit → Act → World → Prop} (hgd : o.guard = none) (s x : Operand) (t : TypeId)
    (ho : o.op = .call { callee := .builtin .append, args := #[s, x], argTypes := #[t, t] })
    (base : Nat) (e : TypeId) (i : TypeInfo) (z : Value) (bytes : Nat) (ht : P.underlying t = some (.slice e)) (hi : P.info? e = some i) (hz : i.zero = some z)
    (hsize : i.size = size) (hby : i.bytes = bytes) (hzs : z.cells.size = size) (hsz : 0 < size)
    (v : Value) (n : Nat) (xs : List Value) (hs : a.eval s = v) (hown : w.ownsRow base e size v n xs)
    (m c : Nat) (news : List Value) (hx : a.eval x = .slice A m c) (hsl : SlR w0 B size A m news) (hbl : Below B w0 w) (h1 : ∀ u ∈ news, u.oneCell' = true)
    (h63 : n + m ≤ maxLen) (hbytes : (n + m) * bytes ≤ 140737488355328) (hbase : base ≤ w.heap.size)
    (h : ∀ v' w', w'.ownsRow base e size v' (n + m) (xs ++ news) → w.grownBy w' v.ownBlock → (v'.ownBlock = v.ownBlock ∨ v'.ownBlock = some w.heap.size) → wpList P ops Q rest (a.put o.dst v') w') : wpList P ops Q (o :: rest) a w :=
  wpList_plain hgd fun _ hK => wp_append_sl s x t ho base e i z bytes ht hi hz hsize hby hzs hsz v n xs hs hown m c news hx hsl hbl h1 h63 hbytes hbase fun v' w' h2 h3 h4 => hK _ _ (h v' w' h2 h3 h4)
/-- at a step of a region that draws its order -/
theorem step_append_sl {w : World} {ops : Array Oper} {o : Oper} {a : Act} {K : Act → World → Prop} {Q : Exit → Act → World → Prop} {E : Prop} (hgd : o.guard = none) (s x : Operand) (t : TypeId)
    (ho : o.op = .call { callee := .builtin .append, args := #[s, x], argTypes := #[t, t] })
    (base : Nat) (e : TypeId) (i : TypeInfo) (z : Value) (bytes : Nat) (ht : P.underlying t = some (.slice e)) (hi : P.info? e = some i) (hz : i.zero = some z)
    (hsize : i.size = size) (hby : i.bytes = bytes) (hzs : z.cells.size = size) (hsz : 0 < size)
    (v : Value) (n : Nat) (xs : List Value) (hs : a.eval s = v) (hown : w.ownsRow base e size v n xs)
    (m c : Nat) (news : List Value) (hx : a.eval x = .slice A m c) (hsl : SlR w0 B size A m news) (hbl : Below B w0 w) (h1 : ∀ u ∈ news, u.oneCell' = true)
    (h63 : n + m ≤ maxLen) (hbytes : (n + m) * bytes ≤ 140737488355328) (hbase : base ≤ w.heap.size)
    (h : ∀ v' w', w'.ownsRow base e size v' (n + m) (xs ++ news) → w.grownBy w' v.ownBlock → (v'.ownBlock = v.ownBlock ∨ v'.ownBlock = some w.heap.size) → K (a.put o.dst v') w') :
    if Region.wanted o (yielded ops a.tmps) = true then Oper.wp P o a w K Q else E := by
  have hw : Region.wanted o (yielded ops a.tmps) = true := by simp [Region.wanted, hgd]
  rw [if_pos hw]
  exact wp_append_sl s x t ho base e i z bytes ht hi hz hsize hby hzs hsz v n xs hs hown m c news hx hsl hbl h1 h63 hbytes hbase h
end
end Go.Proofs.YtcfbgelhggapjaaGreatDoor
/- Plain words on slices: a cut whose capacity is its length, and an append onto one (always a new array). -/
namespace Go.Proofs.YtcfbgelhggapjaaGreatDoor
open Go.RowKit
section
variable {P : Program} {w0 : World} {B size n c : Nat} {A : Option Addr} {xs : List Value}
/-- 's[:k:k]' -/
theorem SlR.cutHiM (h : SlR w0 B size A n xs) (hnc : n ≤ c) {k : Nat} (hk : k ≤ n) (t e : TypeId) (i : TypeInfo) (ht : P.underlying t = some (.slice e)) (hi : P.info? e = some i) :
    ∃ A', SlR w0 B size A' k (xs.take (k * size)) ∧ ∀ w, (Instr.slice t (.slice A n c) none (some (.int .i64 (k : Int))) (some (.int .i64 (k : Int)))).run P w = .ok (.slice A' k k) w := by
  refine ⟨A, h.upto hk, fun w => ?_⟩
  have he : P.elem t = e := by simp [Program.elem, ht]
  have h1 : P.underlying t = some (.slice (P.elem t)) := by rw [he]; exact ht
  rw [run_slice_hm w t A n c h1 .i64 .i64 k k (by omega) (by omega) (by omega), he]
  simp [sizeOf, typeInfo, hi, Result.andThen, sliced]
  rintro _
  cases A with
  | none => rfl
  | some a => obtain ⟨b, off, sp⟩ := a; simp [Addr.add]
theorem SlR.newsW {w : World} (h : SlR w0 B size A n xs) (hb : Below B w0 w) {a : Addr} (e : A = some a) : ∀ j u, xs[j]? = some u → w.cell? (a.add j) = some u := by
  subst e
  intro j u hu
  have hlt := (List.getElem?_eq_some_iff.1 hu).1
  rw [h.1] at hlt
  obtain ⟨b, off, he, hbb, hc⟩ := h.2 (Nat.pos_of_ne_zero (fun h => by simp [h] at hlt))
  cases he
  rw [addr_add]
  exact (hb.cell (p := ⟨b, _, none⟩) hbb).trans (hc j u hu)
theorem run_append_fresh {w : World} (base : Nat) (t ty e : TypeId) (i : TypeInfo) (z : Value) (bytes : Nat) (ht : P.underlying t = some (.slice e)) (hi : P.info? e = some i) (hz : i.zero = some z)
    (hsize : i.size = size) (hby : i.bytes = bytes) (hzs : z.cells.size = size)
    (n : Nat) (xs : List Value) (hsl : SlR w0 B size A n xs) (hbl : Below B w0 w) {w1 : World} {B1 m c : Nat} {A1 : Option Addr} {news : List Value} (hsl1 : SlR w1 B1 size A1 m news) (hbl1 : Below B1 w1 w) (hm : 0 < m)
    (h63 : n + m ≤ maxLen) (hbytes : (n + m) * bytes ≤ 140737488355328) (hbase : base ≤ w.heap.size) :
    ∃ v' w', (Builtin.append_ #[t, t] ty #[.slice A n n, .slice A1 m c]).run P w = .ok v' w' ∧ w'.ownsRow base e size v' (n + m) (xs ++ news) ∧ w.grownBy w' none := by
  subst hsize
  subst hby
  have hsmall : n + m ≤ 9223372036854775807 := by simp only [maxLen] at h63; omega
  obtain ⟨b1, o1, rfl, _, _⟩ := hsl1.2 hm
  have hn1 := hsl1.newsW hbl1 rfl
  have hlen : (xs ++ news).length = (n + m) * i.size := by rw [List.length_append, hsl.1, hsl1.1, Nat.add_mul]
  have key : ∀ old, old < n + m → (w.drew.alloc (.cells (xs.toArray ++ news.toArray ++ Builtin.zeroCells z.cells (grownCap w (n + m) old e - (n + m))) e)).ownsRow base e i.size (.slice (some ⟨w.heap.size, 0, none⟩) (n + m) (grownCap w (n + m) old e)) (n + m) (xs ++ news) ∧
      w.grownBy (w.drew.alloc (.cells (xs.toArray ++ news.toArray ++ Builtin.zeroCells z.cells (grownCap w (n + m) old e - (n + m))) e)) none := by
    intro old ho
    have hge := grownCap_ge w (n + m) old e
    have hcm : grownCap w (n + m) old e ≤ maxLen := grownCap_le_maxLen w (n + m) old e h63
    refine ⟨⟨hlen, .inr ⟨w.heap.size, _, _, rfl, hbase, heap_alloc_new w.drew _, hge, hcm, ?_, ?_⟩⟩, ⟨rfl, rfl, rfl, by simp, fun k hk _ => Below.heap_alloc w.drew _ k hk⟩⟩
    · simp only [Array.size_append, List.size_toArray, size_zeroCells, hzs, hsl.1, hsl1.1, ← Nat.add_mul]
      congr 1
      omega
    · simp only [Array.toList_append, List.append_assoc]
      rw [← List.append_assoc, ← hlen]
      exact List.take_left
  cases A with
  | none =>
    have h0 : n = 0 := by
      rcases Nat.eq_zero_or_pos n with h | h
      · exact h
      · obtain ⟨_, _, he, _⟩ := hsl.2 h; cases he
    subst h0
    have hnil := hsl.zero rfl
    subst hnil
    have hr := run_append_nil (P := P) w t ty e i z ht hi hz ⟨b1, o1, none⟩ m c news hsl1.1 hn1 hm (by omega) (by have hb := hbytes; simp only [Nat.zero_add] at hb; omega)
    have hk := key 0 (by omega)
    simp only [Nat.zero_add, List.nil_append, Array.empty_append] at hk ⊢
    exact ⟨_, _, hr, hk.1, hk.2⟩
  | some a =>
    have hr := run_append_grow (P := P) w t ty e i z ht hi hz a n n xs hsl.1 (hsl.newsW hbl rfl) ⟨b1, o1, none⟩ m c news hsl1.1 hn1 (by omega) (by omega) (growslice_fits (by omega) hbytes)
    have hk := key n (by omega)
    exact ⟨_, _, hr, hk.1, hk.2⟩
/-- at a step of a region that draws its order -/
theorem step_append_fresh {w : World} {ops : Array Oper} {o : Oper} {a : Act} {K : Act → World → Prop} {Q : Exit → Act → World → Prop} {E : Prop} (hgd : o.guard = none) (s x : Operand) (t : TypeId)
    (ho : o.op = .call { callee := .builtin .append, args := #[s, x], argTypes := #[t, t] })
    (base : Nat) (e : TypeId) (i : TypeInfo) (z : Value) (bytes : Nat) (ht : P.underlying t = some (.slice e)) (hi : P.info? e = some i) (hz : i.zero = some z)
    (hsize : i.size = size) (hby : i.bytes = bytes) (hzs : z.cells.size = size)
    (n : Nat) (xs : List Value) (hs : a.eval s = .slice A n n) (hsl : SlR w0 B size A n xs) (hbl : Below B w0 w)
    {w1 : World} {B1 : Nat} (m c : Nat) {A1 : Option Addr} (news : List Value) (hx : a.eval x = .slice A1 m c) (hsl1 : SlR w1 B1 size A1 m news) (hbl1 : Below B1 w1 w) (hm : 0 < m)
    (h63 : n + m ≤ maxLen) (hbytes : (n + m) * bytes ≤ 140737488355328) (hbase : base ≤ w.heap.size)
    (h : ∀ v' w', w'.ownsRow base e size v' (n + m) (xs ++ news) → w.grownBy w' none → K (a.put o.dst v') w') :
    if Region.wanted o (yielded ops a.tmps) = true then Oper.wp P o a w K Q else E := by
  have hw : Region.wanted o (yielded ops a.tmps) = true := by simp [Region.wanted, hgd]
  rw [if_pos hw]
  obtain ⟨v', w', hr, h2, h3⟩ := run_append_fresh (P := P) (w := w) base t o.type e i z bytes ht hi hz hsize hby hzs n xs hsl hbl (c := c) hsl1 hbl1 hm h63 hbytes hbase
  unfold Oper.wp execOp
  simp only [ho, resolve, invoke, builtin, Sem.run_bind, Sem.run_pure, Result.andThen_ok, List.map_toArray, List.map_cons, List.map_nil, hs, hx, hr]
  exact h v' w' h2 h3
end
end Go.Proofs.YtcfbgelhggapjaaGreatDoor
/- Plain words on records, and on lists of them in memory. No program here. -/
namespace Go.Proofs.YtcfbgelhggapjaaGreatDoor
open Go.RowKit
structure Rc where
  pen : Int
  num : Int
  at_ : Int
  of : Int
  which : Int
  kind : Int
  text : ByteArray
theorem Rc.ext_iff' (a b : Rc) : a = b ↔ (a.pen = b.pen ∧ a.num = b.num ∧ a.at_ = b.at_ ∧ a.of = b.of ∧ a.which = b.which ∧ a.kind = b.kind ∧ a.text = b.text) := by
  cases a; cases b; simp
instance : DecidableEq Rc := fun a b => decidable_of_iff' _ (Rc.ext_iff' a b)
def zRc : Rc := ⟨0, 0, 0, 0, 0, 0, ByteArray.empty⟩
instance : Inhabited Rc := ⟨zRc⟩
def cR (s : Rc) : List Value := [.int .i64 s.pen, .int .i64 s.num, .int .i64 s.at_, .int .i64 s.of, .int .i64 s.which, .int .i64 s.kind, .string s.text]
abbrev rcV (s : Rc) : Value := .agg #[.int .i64 s.pen, .int .i64 s.num, .int .i64 s.at_, .int .i64 s.of, .int .i64 s.which, .int .i64 s.kind, .string s.text]
theorem rcV_eq (s : Rc) : Value.agg (cR s).toArray = rcV s := rfl
theorem oneR (l : List Rc) (u : Value) (h : u ∈ l.flatMap cR) : u.oneCell' = true := by
  obtain ⟨s, _, hu⟩ := List.mem_flatMap.1 h
  simp only [cR, List.mem_cons, List.not_mem_nil, or_false] at hu
  rcases hu with rfl | rfl | rfl | rfl | rfl | rfl | rfl <;> rfl
section
variable {w w' : World} {B n k : Nat} {A : Option Addr}
theorem SlR.to' {xs : List Value} (h : SlR w w.heap.size k A n xs) (hb : Below w.heap.size w w') : SlR w' w'.heap.size k A n xs := (h.below hb).more hb.size
theorem SlR.lenR {l : List Rc} (h : SlR w B 7 A n (l.flatMap cR)) : l.length = n := by
  have := h.1
  rw [flat_len cR 7 (fun _ => rfl)] at this
  omega
theorem SlR.atR {l : List Rc} {wr : World} (h : SlR w B 7 A n (l.flatMap cR)) (hb : Below B w wr) {k : Nat} (hk : k < l.length) :
    ∃ b off, A = some ⟨b, off, none⟩ ∧ b < B ∧ wr.cell? ⟨b, off + k * 7, none⟩ = some (.int .i64 l[k].pen) ∧ wr.cell? ⟨b, off + k * 7 + 1, none⟩ = some (.int .i64 l[k].num) ∧ wr.cell? ⟨b, off + k * 7 + 2, none⟩ = some (.int .i64 l[k].at_) ∧
      wr.cell? ⟨b, off + k * 7 + 3, none⟩ = some (.int .i64 l[k].of) ∧ wr.cell? ⟨b, off + k * 7 + 4, none⟩ = some (.int .i64 l[k].which) ∧ wr.cell? ⟨b, off + k * 7 + 5, none⟩ = some (.int .i64 l[k].kind) ∧ wr.cell? ⟨b, off + k * 7 + 6, none⟩ = some (.string l[k].text) := by
  obtain ⟨b, off, e, hbb, hc⟩ := h.2 (by have := h.lenR; omega)
  have g := flat_get cR 7 (fun _ => rfl) l k hk
  refine ⟨b, off, e, hbb, ?_, ?_, ?_, ?_, ?_, ?_, ?_⟩
  · exact (hb.cell (p := ⟨b, _, none⟩) hbb).trans (hc (k * 7) _ (g 0 (by omega)))
  · exact (hb.cell (p := ⟨b, _, none⟩) hbb).trans (hc (k * 7 + 1) _ (by simpa [cR] using g 1 (by omega)))
  · exact (hb.cell (p := ⟨b, _, none⟩) hbb).trans (hc (k * 7 + 2) _ (by simpa [cR] using g 2 (by omega)))
  · exact (hb.cell (p := ⟨b, _, none⟩) hbb).trans (hc (k * 7 + 3) _ (by simpa [cR] using g 3 (by omega)))
  · exact (hb.cell (p := ⟨b, _, none⟩) hbb).trans (hc (k * 7 + 4) _ (by simpa [cR] using g 4 (by omega)))
  · exact (hb.cell (p := ⟨b, _, none⟩) hbb).trans (hc (k * 7 + 5) _ (by simpa [cR] using g 5 (by omega)))
  · exact (hb.cell (p := ⟨b, _, none⟩) hbb).trans (hc (k * 7 + 6) _ (by simpa [cR] using g 6 (by omega)))
theorem Blk.allR {g : Nat} {t : TypeId} {s : Rc} (h : Blk w g t (cR s)) : w.cell? ⟨g, 0, none⟩ = some (.int .i64 s.pen) ∧ w.cell? ⟨g, 1, none⟩ = some (.int .i64 s.num) ∧ w.cell? ⟨g, 2, none⟩ = some (.int .i64 s.at_) ∧
    w.cell? ⟨g, 3, none⟩ = some (.int .i64 s.of) ∧ w.cell? ⟨g, 4, none⟩ = some (.int .i64 s.which) ∧ w.cell? ⟨g, 5, none⟩ = some (.int .i64 s.kind) ∧ w.cell? ⟨g, 6, none⟩ = some (.string s.text) :=
  ⟨h.cell 0, h.cell 1, h.cell 2, h.cell 3, h.cell 4, h.cell 5, h.cell 6⟩
end
end Go.Proofs.YtcfbgelhggapjaaGreatDoor
/- Plain words on lists of records: when they are valid, where a record lies, in which order records come. No program here. -/
namespace Go.Proofs.YtcfbgelhggapjaaGreatDoor
def rootB (s : Rc) : Bool := decide (s.of = -1) && decide (s.which = 0)
def fmB (s : Rc) : Bool := inB s.pen 0 39 && (inB s.num 1 150 && (inB s.at_ 0 1000000 && (inB s.kind 0 15 && (decide (s.text.size ≤ 4000) && (rootB s || (inB s.of 0 39 && (inB s.which 1 150 && !(decide (s.of = s.pen) && decide (s.which = s.num)))))))))
def lsB (a b : Rc) : Bool := decide (a.pen < b.pen) || (decide (a.pen = b.pen) && decide (a.num < b.num))
def bfB (a b : Rc) : Bool := if a.at_ = b.at_ then lsB a b else decide (a.at_ < b.at_)
def keyR (r : Rc) : I2 := (r.pen, r.num)
def tgt (r : Rc) : I2 := (r.of, r.which)
def lstB (a b : I2) : Bool := decide (a.1 < b.1) || (decide (a.1 = b.1) && decide (a.2 < b.2))
theorem lsB_key (a b : Rc) : lsB a b = lstB (keyR a) (keyR b) := rfl
theorem lst_iff {a b : I2} : lstB a b = true ↔ a.1 < b.1 ∨ (a.1 = b.1 ∧ a.2 < b.2) := by simp [lstB]
theorem ls_iff {a b : Rc} : lsB a b = true ↔ a.pen < b.pen ∨ (a.pen = b.pen ∧ a.num < b.num) := by simp [lsB]
theorem bf_iff {a b : Rc} : bfB a b = true ↔ a.at_ < b.at_ ∨ (a.at_ = b.at_ ∧ (a.pen < b.pen ∨ (a.pen = b.pen ∧ a.num < b.num))) := by
  unfold bfB
  split
  · rw [ls_iff]; omega
  · simp; omega
theorem key_iff {a b : Rc} : keyR a = keyR b ↔ a.pen = b.pen ∧ a.num = b.num := by simp [keyR]
theorem ls_trans {a b c : Rc} (h : lsB a b = true) (g : lsB b c = true) : lsB a c = true := by rw [ls_iff] at *; omega
theorem bf_trans {a b c : Rc} (h : bfB a b = true) (g : bfB b c = true) : bfB a c = true := by rw [bf_iff] at *; omega
theorem ls_irr (a : Rc) : lsB a a = false := by simp [lsB]
theorem bf_irr (a : Rc) : bfB a a = false := by simp [bfB, lsB]
theorem ls_tri (a b : Rc) : lsB a b = true ∨ keyR a = keyR b ∨ lsB b a = true := by rw [ls_iff, ls_iff, key_iff]; omega
theorem bf_tri (a b : Rc) : bfB a b = true ∨ keyR a = keyR b ∨ bfB b a = true := by rw [bf_iff, bf_iff, key_iff]; omega
theorem ls_asym {a b : Rc} (h : lsB a b = true) : lsB b a = false := by
  cases g : lsB b a with
  | false => rfl
  | true => rw [ls_iff] at *; omega
theorem bf_asym {a b : Rc} (h : bfB a b = true) : bfB b a = false := by
  cases g : bfB b a with
  | false => rfl
  | true => rw [bf_iff] at *; omega
theorem ls_ne {a b : Rc} (h : lsB a b = true) : keyR a ≠ keyR b := by rw [ls_iff] at h; rw [Ne, key_iff]; omega
theorem bf_ne {a b : Rc} (h : bfB a b = true) : a.at_ < b.at_ ∨ keyR a ≠ keyR b := by rw [bf_iff] at h; rw [Ne, key_iff]; omega
def okAt (p x : Rc) : Bool := if x.pen = p.pen then decide (x.num = p.num + 1) && decide (p.at_ ≤ x.at_) else decide (x.num = 1) && decide (p.pen < x.pen)
def okI (l : List Rc) (i : Nat) : Bool := fmB l[i]! && (if i = 0 then decide (l[i]!.num = 1) else okAt l[i - 1]! l[i]!)
def chB (l : List Rc) : Bool := (List.range l.length).all (okI l)
def soB (l : List Rc) (r : Rc) : Bool := rootB r || l.any (fun o => decide (keyR o = tgt r) && bfB o r)
def vlB (l : List Rc) : Bool := chB l && l.all (soB l)
def vrB (pen : Int) (l : List Rc) : Bool := inB pen 0 39 && (decide (l.length ≤ 150) && vlB l)
/-- what a valid list of records is -/
structure VL (l : List Rc) : Prop where
  srt : l.Pairwise (fun a b => lsB a b = true)
  fm : ∀ r ∈ l, fmB r = true
  down : ∀ r ∈ l, 1 < r.num → ∃ s ∈ l, s.pen = r.pen ∧ s.num = r.num - 1
  mono : ∀ r ∈ l, ∀ s ∈ l, r.pen = s.pen → r.num ≤ s.num → r.at_ ≤ s.at_
  snd : ∀ r ∈ l, rootB r = true ∨ ∃ o ∈ l, keyR o = tgt r ∧ bfB o r = true
theorem fm_num {r : Rc} (h : fmB r = true) : 1 ≤ r.num ∧ r.num ≤ 150 ∧ 0 ≤ r.pen ∧ r.pen ≤ 39 ∧ 0 ≤ r.at_ ∧ r.at_ ≤ 1000000 ∧ 0 ≤ r.kind ∧ r.kind ≤ 15 ∧ r.text.size ≤ 4000 := by
  simp [fmB, inB] at h
  omega
theorem fm_tgt {r : Rc} (h : fmB r = true) : rootB r = true ∨ (rootB r = false ∧ 0 ≤ r.of ∧ r.of ≤ 39 ∧ 1 ≤ r.which ∧ r.which ≤ 150 ∧ tgt r ≠ keyR r) := by
  cases hr : rootB r with
  | true => exact .inl rfl
  | false =>
    right
    simp [fmB, inB, hr] at h
    refine ⟨rfl, ?_, ?_, ?_, ?_, ?_⟩
    · omega
    · omega
    · omega
    · omega
    · simp only [tgt, keyR, Ne, Prod.mk.injEq]
      intro e
      omega
theorem pw_iff {α : Type} {R : α → α → Prop} {l : List α} : l.Pairwise R ↔ ∀ (i j : Nat) (hi : i < l.length) (hj : j < l.length), i < j → R l[i] l[j] := List.pairwise_iff_getElem
theorem bang {α : Type} [Inhabited α] {l : List α} {i : Nat} (h : i < l.length) : l[i]! = l[i] := by simp [h]
theorem srt_of_ch {l : List Rc} (h : ∀ i, i < l.length → okI l i = true) : ∀ (j i : Nat) (hi : i < l.length) (hj : j < l.length), i < j → lsB l[i] l[j] = true := by
  have step : ∀ i (hi : i + 1 < l.length), lsB (l[i]'(by omega)) l[i + 1] = true := by
    intro i hi
    have := h (i + 1) hi
    unfold okI okAt at this
    rw [bang hi, if_neg (by omega), show i + 1 - 1 = i by omega, bang (show i < l.length by omega)] at this
    rw [ls_iff]
    split at this <;> simp at this <;> omega
  intro j
  induction j with
  | zero => intro i hi hj hij; omega
  | succ j ih =>
    intro i hi hj hij
    by_cases e : i = j
    · subst e; exact step i hj
    · exact ls_trans (ih i hi (by omega) (by omega)) (step j hj)
theorem vl_of {l : List Rc} (h : vlB l = true) : VL l := by
  unfold vlB chB at h
  rw [Bool.and_eq_true, List.all_eq_true, List.all_eq_true] at h
  obtain ⟨h1, h2⟩ := h
  have hc : ∀ i, i < l.length → okI l i = true := fun i hi => h1 i (List.mem_range.2 hi)
  have hfm : ∀ i (hi : i < l.length), fmB l[i] = true := fun i hi => by
    have := hc i hi
    unfold okI at this
    rw [bang hi] at this
    simp at this
    exact this.1
  have hs := srt_of_ch hc
  -- an element with a number above 1 has its forerunner just ahead of it
  have hprev : ∀ i (hi : i < l.length), 1 < l[i].num → ∃ h : 0 < i, (l[i - 1]'(by omega)).pen = l[i].pen ∧ (l[i - 1]'(by omega)).num = l[i].num - 1 ∧ (l[i - 1]'(by omega)).at_ ≤ l[i].at_ := fun i hi hn => by
    have := hc i hi
    unfold okI okAt at this
    rw [bang hi] at this
    by_cases h0 : i = 0
    · subst h0; simp at this; omega
    · rw [if_neg h0, bang (show i - 1 < l.length by omega)] at this
      refine ⟨by omega, ?_⟩
      split at this <;> simp at this <;> omega
  refine ⟨pw_iff.2 fun i j hi hj hij => hs j i hi hj hij, fun r hr => ?_, fun r hr hn => ?_, ?_, fun r hr => ?_⟩
  · obtain ⟨i, hi, rfl⟩ := List.getElem_of_mem hr
    exact hfm i hi
  · obtain ⟨i, hi, rfl⟩ := List.getElem_of_mem hr
    obtain ⟨h0, e1, e2, _⟩ := hprev i hi hn
    exact ⟨_, List.getElem_mem _, e1, e2⟩
  · -- at is ascending
    have hm : ∀ (d i j : Nat) (hi : i < l.length) (hj : j < l.length), j = i + d → l[i].pen = l[j].pen → l[i].at_ ≤ l[j].at_ := by
      intro d
      induction d with
      | zero => intro i j hi hj e _; subst e; exact Int.le_refl _
      | succ d ih =>
        intro i j hi hj e hp
        have h1 := hs j i hi hj (by omega)
        rw [ls_iff] at h1
        have hf := fm_num (hfm i hi)
        obtain ⟨h0, e1, e2, e3⟩ := hprev j hj (by omega)
        exact Int.le_trans (ih i (j - 1) hi (by omega) (by omega) (hp.trans e1.symm)) e3
    intro r hr s hs' hp hn
    obtain ⟨i, hi, rfl⟩ := List.getElem_of_mem hr
    obtain ⟨j, hj, rfl⟩ := List.getElem_of_mem hs'
    by_cases hij : i ≤ j
    · exact hm (j - i) i j hi hj (by omega) hp
    · have := hs i j hj hi (by omega)
      rw [ls_iff] at this
      omega
  · have := h2 r hr
    unfold soB at this
    rw [Bool.or_eq_true, List.any_eq_true] at this
    rcases this with h | ⟨o, ho, h⟩
    · exact .inl h
    · simp at h; exact .inr ⟨o, ho, h.1, h.2⟩
theorem of_vl {l : List Rc} (h : VL l) : vlB l = true := by
  have hs := pw_iff.1 h.srt
  -- nothing lies between neighbours
  have hbt : ∀ i (hi : i < l.length) (h0 : 0 < i), ∀ s ∈ l, lsB (l[i - 1]'(by omega)) s = true → lsB s l[i] = true → False := by
    intro i hi h0 s hsm h1 h2
    obtain ⟨j, hj, rfl⟩ := List.getElem_of_mem hsm
    have g1 : i - 1 < j := by
      rcases Nat.lt_trichotomy (i - 1) j with g | g | g
      · exact g
      · subst g; rw [ls_irr] at h1; cases h1
      · have := hs j (i - 1) hj (by omega) g
        rw [ls_asym this] at h1; cases h1
    have g2 : j < i := by
      rcases Nat.lt_trichotomy j i with g | g | g
      · exact g
      · subst g; rw [ls_irr] at h2; cases h2
      · have := hs i j hi hj g
        rw [ls_asym this] at h2; cases h2
    omega
  unfold vlB chB
  rw [Bool.and_eq_true, List.all_eq_true, List.all_eq_true]
  refine ⟨fun i hi => ?_, fun r hr => ?_⟩
  · have hi := List.mem_range.1 hi
    have hfm := h.fm _ (List.getElem_mem hi)
    have hn := fm_num hfm
    unfold okI okAt
    rw [bang hi, hfm, Bool.true_and]
    by_cases h0 : i = 0
    · subst h0
      rw [if_pos rfl]
      simp
      apply Classical.byContradiction
      intro hne
      obtain ⟨s, hsm, e1, e2⟩ := h.down _ (List.getElem_mem hi) (by omega)
      obtain ⟨j, hj, rfl⟩ := List.getElem_of_mem hsm
      by_cases hj0 : j = 0
      · subst hj0; omega
      · have := hs 0 j hi hj (by omega)
        rw [ls_iff] at this
        omega
    · rw [if_neg h0, bang (show i - 1 < l.length by omega)]
      have hp := hs (i - 1) i (by omega) hi (by omega)
      have hm := h.mono _ (List.getElem_mem (show i - 1 < l.length by omega)) _ (List.getElem_mem hi)
      have hb := hbt i hi (by omega)
      have hd := h.down _ (List.getElem_mem hi)
      rw [ls_iff] at hp
      by_cases hq : l[i].pen = (l[i - 1]'(by omega)).pen
      · rw [if_pos hq]
        simp
        refine ⟨?_, hm hq.symm (by omega)⟩
        apply Classical.byContradiction
        intro hne
        have hnp := fm_num (h.fm _ (List.getElem_mem (show i - 1 < l.length by omega)))
        obtain ⟨s, hsm, e1, e2⟩ := hd (by omega)
        have q1 : lsB (l[i - 1]'(by omega)) s = true := by
          clear hb hd hm hs hbt
          rw [ls_iff]
          omega
        have q2 : lsB s l[i] = true := by
          clear hb hd hm hs hbt
          rw [ls_iff]
          omega
        exact hb s hsm q1 q2
      · rw [if_neg hq]
        simp
        refine ⟨?_, by omega⟩
        apply Classical.byContradiction
        intro hne
        obtain ⟨s, hsm, e1, e2⟩ := hd (by omega)
        have q1 : lsB (l[i - 1]'(by omega)) s = true := by
          clear hb hd hm hs hbt
          rw [ls_iff]
          omega
        have q2 : lsB s l[i] = true := by
          clear hb hd hm hs hbt
          rw [ls_iff]
          omega
        exact hb s hsm q1 q2
  · unfold soB
    rw [Bool.or_eq_true, List.any_eq_true]
    rcases h.snd r hr with g | ⟨o, ho, g1, g2⟩
    · exact .inl g
    · exact .inr ⟨o, ho, by simp [g1, g2]⟩
theorem vl_iff {l : List Rc} : vlB l = true ↔ VL l := ⟨vl_of, of_vl⟩
/-! ### keys -/
theorem VL.nd {l : List Rc} (h : VL l) : (l.map keyR).Nodup := by
  rw [List.Nodup, List.pairwise_map]
  exact h.srt.imp fun h => ls_ne h
theorem key_eq {l : List Rc} (h : (l.map keyR).Nodup) {a b : Rc} (ha : a ∈ l) (hb : b ∈ l) (e : keyR a = keyR b) : a = b := by
  induction l with
  | nil => cases ha
  | cons x l ih =>
    simp only [List.map_cons, List.nodup_cons] at h
    rcases List.mem_cons.1 ha with rfl | ha' <;> rcases List.mem_cons.1 hb with rfl | hb'
    · rfl
    · exact absurd (List.mem_map.2 ⟨b, hb', e.symm⟩) h.1
    · exact absurd (List.mem_map.2 ⟨a, ha', e⟩) h.1
    · exact ih h.2 ha' hb'
theorem VL.downs {l : List Rc} (h : VL l) {r : Rc} (hr : r ∈ l) {n : Int} (h1 : 1 ≤ n) (hn : n ≤ r.num) : ∃ s ∈ l, s.pen = r.pen ∧ s.num = n := by
  have : ∀ (d : Nat) (r : Rc), r ∈ l → r.num = n + d → ∃ s ∈ l, s.pen = r.pen ∧ s.num = n := by
    intro d
    induction d with
    | zero => intro r hr e; exact ⟨r, hr, rfl, by omega⟩
    | succ d ih =>
      intro r hr e
      obtain ⟨s, hs, e1, e2⟩ := h.down r hr (by omega)
      obtain ⟨t, ht, g1, g2⟩ := ih s hs (by omega)
      exact ⟨t, ht, g1.trans e1, g2⟩
  exact this (r.num - n).toNat r hr (by omega)
/-- two lists of which nothing contradicts, put together -/
theorem vl_join {a b m : List Rc} (ha : VL a) (hb : VL b) (hc : ∀ x ∈ a, ∀ y ∈ b, keyR x = keyR y → x = y) (hs : m.Pairwise (fun a b => lsB a b = true)) (hm : ∀ r, r ∈ m ↔ r ∈ a ∨ r ∈ b) : VL m := by
  refine ⟨hs, fun r hr => ?_, fun r hr hn => ?_, fun r hr s hs' hp hn => ?_, fun r hr => ?_⟩
  · rcases (hm r).1 hr with h | h
    · exact ha.fm r h
    · exact hb.fm r h
  · rcases (hm r).1 hr with h | h
    · obtain ⟨s, h1, h2⟩ := ha.down r h hn; exact ⟨s, (hm s).2 (.inl h1), h2⟩
    · obtain ⟨s, h1, h2⟩ := hb.down r h hn; exact ⟨s, (hm s).2 (.inr h1), h2⟩
  · rcases (hm r).1 hr with h | h <;> rcases (hm s).1 hs' with g | g
    · exact ha.mono r h s g hp hn
    · obtain ⟨t, ht, e1, e2⟩ := hb.downs g (fm_num (ha.fm r h)).1 hn
      have : r = t := hc r h t ht (key_iff.2 ⟨hp.trans e1.symm, e2.symm⟩)
      subst this
      exact hb.mono r ht s g hp hn
    · obtain ⟨t, ht, e1, e2⟩ := ha.downs g (fm_num (hb.fm r h)).1 hn
      have : t = r := hc t ht r h (key_iff.2 ⟨e1.trans hp.symm, e2⟩)
      subst this
      exact ha.mono t ht s g hp hn
    · exact hb.mono r h s g hp hn
  · rcases (hm r).1 hr with h | h
    · rcases ha.snd r h with g | ⟨o, ho, g⟩
      · exact .inl g
      · exact .inr ⟨o, (hm o).2 (.inl ho), g⟩
    · rcases hb.snd r h with g | ⟨o, ho, g⟩
      · exact .inl g
      · exact .inr ⟨o, (hm o).2 (.inr ho), g⟩
/-- a sorted list is told by what is in it -/
theorem sort_uniq {lt : Rc → Rc → Bool} (tr : ∀ a b, lt a b = true → lt b a = false) : ∀ {s t : List Rc}, s.Pairwise (fun a b => lt a b = true) → t.Pairwise (fun a b => lt a b = true) → (∀ r, r ∈ s ↔ r ∈ t) → s = t
  | [], [], _, _, _ => rfl
  | [], y :: t, _, _, h => absurd ((h y).2 (.head _)) (by simp)
  | x :: s, [], _, _, h => absurd ((h x).1 (.head _)) (by simp)
  | x :: s, y :: t, hs, ht, h => by
    rw [List.pairwise_cons] at hs ht
    have irr : ∀ a, lt a a = true → False := fun a ha => by have := tr a a ha; rw [ha] at this; cases this
    have e : x = y := by
      rcases List.mem_cons.1 ((h x).1 (.head _)) with e | e
      · exact e
      · rcases List.mem_cons.1 ((h y).2 (.head _)) with e' | e'
        · exact e'.symm
        · have h1 := ht.1 x e
          have h2 := hs.1 y e'
          rw [tr _ _ h1] at h2; cases h2
    subst e
    rw [sort_uniq tr hs.2 ht.2 (fun r => ?_)]
    constructor
    · intro hr
      rcases List.mem_cons.1 ((h r).1 (.tail _ hr)) with e | e
      · subst e; exact (irr _ (hs.1 _ hr)).elim
      · exact e
    · intro hr
      rcases List.mem_cons.1 ((h r).2 (.tail _ hr)) with e | e
      · subst e; exact (irr _ (ht.1 _ hr)).elim
      · exact e
end Go.Proofs.YtcfbgelhggapjaaGreatDoor
/- Plain words on replicas: finding, putting, counting, merging. No program here. -/
namespace Go.Proofs.YtcfbgelhggapjaaGreatDoor
def isK (k : I2) (r : Rc) : Bool := decide (keyR r = k)
def fdR (k : I2) (l : List Rc) : Option Rc := l.find? (isK k)
/-- where the record with a key lies, or -1 -/
def fdI (k : I2) (l : List Rc) : Int := match l.findIdx? (isK k) with | some i => i | none => -1
theorem fd_some {k : I2} {l : List Rc} {r : Rc} (h : fdR k l = some r) : r ∈ l ∧ keyR r = k :=
  ⟨List.mem_of_find?_eq_some h, by simpa [isK] using List.find?_some h⟩
theorem fd_none {k : I2} {l : List Rc} : fdR k l = none ↔ ∀ r ∈ l, keyR r ≠ k := by
  unfold fdR
  rw [List.find?_eq_none]
  simp [isK]
theorem fd_mem {l : List Rc} (h : (l.map keyR).Nodup) {r : Rc} (hr : r ∈ l) : fdR (keyR r) l = some r := by
  cases hq : fdR (keyR r) l with
  | none => exact absurd rfl (fd_none.1 hq r hr)
  | some s =>
    obtain ⟨h1, h2⟩ := fd_some hq
    rw [key_eq h h1 hr h2]
theorem fd_iff {l : List Rc} (h : (l.map keyR).Nodup) {k : I2} {r : Rc} : fdR k l = some r ↔ r ∈ l ∧ keyR r = k := by
  constructor
  · exact fd_some
  · rintro ⟨h1, rfl⟩; exact fd_mem h h1
theorem fdI_some {k : I2} {l : List Rc} {i : Nat} (h : l.findIdx? (isK k) = some i) : ∃ hi : i < l.length, keyR l[i] = k ∧ fdR k l = some l[i] ∧ fdI k l = i := by
  obtain ⟨hi, h1, h2⟩ := List.findIdx?_eq_some_iff_getElem.1 h
  refine ⟨hi, by simpa [isK] using h1, ?_, by unfold fdI; rw [h]⟩
  unfold fdR
  rw [List.find?_eq_some_iff_getElem]
  exact ⟨h1, i, hi, rfl, fun j hj => by have := h2 j hj; simpa using this⟩
theorem fdI_cases (k : I2) (l : List Rc) : (fdR k l = none ∧ fdI k l = -1) ∨ ∃ (i : Nat) (hi : i < l.length), keyR l[i] = k ∧ fdR k l = some l[i] ∧ fdI k l = i := by
  cases h : l.findIdx? (isK k) with
  | none =>
    left
    refine ⟨?_, by unfold fdI; rw [h]⟩
    unfold fdR
    rw [List.find?_eq_none]
    rw [List.findIdx?_eq_none_iff] at h
    simpa using h
  | some i =>
    obtain ⟨hi, h1, h2, h3⟩ := fdI_some h
    exact .inr ⟨i, hi, h1, h2, h3⟩
theorem fdI_neg {k : I2} {l : List Rc} : fdI k l < 0 ↔ fdR k l = none := by
  rcases fdI_cases k l with ⟨h1, h2⟩ | ⟨i, hi, h0, h1, h2⟩
  · rw [h2, h1]; simp
  · rw [h2, h1]; simp
/-! ### putting -/
def putL (l : List Rc) (x : Rc) : List Rc := l.takeWhile (fun y => lsB y x) ++ x :: l.dropWhile (fun y => lsB y x)
theorem mem_putL {l : List Rc} {x r : Rc} : r ∈ putL l x ↔ r = x ∨ r ∈ l := by
  unfold putL
  have h : r ∈ l ↔ r ∈ l.takeWhile (fun y => lsB y x) ∨ r ∈ l.dropWhile (fun y => lsB y x) := by
    conv => lhs; rw [← List.takeWhile_append_dropWhile (p := fun y => lsB y x) (l := l)]
    exact List.mem_append
  rw [List.mem_append, List.mem_cons, h]
  constructor
  · rintro (a | a | a)
    · exact .inr (.inl a)
    · exact .inl a
    · exact .inr (.inr a)
  · rintro (a | a | a)
    · exact .inr (.inl a)
    · exact .inl a
    · exact .inr (.inr a)
theorem len_putL (l : List Rc) (x : Rc) : (putL l x).length = l.length + 1 := by
  unfold putL
  have h := congrArg List.length (List.takeWhile_append_dropWhile (p := fun y => lsB y x) (l := l))
  simp only [List.length_append, List.length_cons] at *
  omega
theorem srt_putL {l : List Rc} {x : Rc} (hs : l.Pairwise (fun a b => lsB a b = true)) (hk : ∀ y ∈ l, keyR y ≠ keyR x) : (putL l x).Pairwise (fun a b => lsB a b = true) := by
  induction l with
  | nil => simp [putL]
  | cons y l ih =>
    rw [List.pairwise_cons] at hs
    by_cases hy : lsB y x = true
    · have e : putL (y :: l) x = y :: putL l x := by simp [putL, hy]
      rw [e, List.pairwise_cons]
      refine ⟨fun r hr => ?_, ih hs.2 (fun z hz => hk z (.tail _ hz))⟩
      rcases mem_putL.1 hr with rfl | hr
      · exact hy
      · exact hs.1 r hr
    · have e : putL (y :: l) x = x :: y :: l := by simp [putL, hy]
      have hxy : lsB x y = true := by
        rcases ls_tri x y with h | h | h
        · exact h
        · exact absurd h.symm (hk y (.head _))
        · exact absurd h hy
      rw [e, List.pairwise_cons, List.pairwise_cons]
      refine ⟨fun r hr => ?_, hs⟩
      rcases List.mem_cons.1 hr with rfl | hr
      · exact hxy
      · exact ls_trans hxy (hs.1 r hr)
/-! ### counting -/
def cntP (p : Int) (l : List Rc) : Nat := l.countP (fun r => decide (r.pen = p))
theorem max_of : ∀ {s : List Int}, s ≠ [] → ∃ m ∈ s, ∀ n ∈ s, n ≤ m
  | [], h => absurd rfl h
  | [x], _ => ⟨x, .head _, fun n hn => by simp at hn; omega⟩
  | x :: y :: s, _ => by
    obtain ⟨m, hm, hx⟩ := max_of (s := y :: s) (by simp)
    by_cases h : x ≤ m
    · refine ⟨m, .tail _ hm, fun n hn => ?_⟩
      rcases List.mem_cons.1 hn with rfl | hn
      · exact h
      · exact hx n hn
    · refine ⟨x, .head _, fun n hn => ?_⟩
      rcases List.mem_cons.1 hn with rfl | hn
      · exact Int.le_refl _
      · have := hx n hn; omega
theorem dense : ∀ (k : Nat) (s : List Int), s.length = k → s.Nodup → (∀ n ∈ s, 1 ≤ n) → (∀ n ∈ s, 1 < n → n - 1 ∈ s) → ∀ n, n ∈ s ↔ 1 ≤ n ∧ n ≤ k
  | 0, s, hk, _, _, _, n => by
    have : s = [] := List.eq_nil_of_length_eq_zero hk
    subst this
    simp
    omega
  | k + 1, s, hk, hn, h1, hd, n => by
    obtain ⟨m, hm, hx⟩ := max_of (s := s) (by rintro rfl; simp at hk)
    have me : ∀ x, x ∈ s.erase m ↔ x ≠ m ∧ x ∈ s := fun x => hn.mem_erase_iff
    have ih := dense k (s.erase m) (by rw [List.length_erase_of_mem hm]; omega) (hn.erase m) (fun x hx' => h1 x ((me x).1 hx').2) (fun x hx' h => by
      have h2 := (me x).1 hx'
      have := hx x h2.2
      exact (me _).2 ⟨by omega, hd x h2.2 h⟩)
    have hmk : m = k + 1 := by
      have a1 : ¬ (1 ≤ m ∧ m ≤ (k : Int)) := fun h => ((me m).1 ((ih m).2 h)).1 rfl
      have a2 := h1 m hm
      by_cases h : 1 < m
      · have := (ih (m - 1)).1 ((me _).2 ⟨by omega, hd m hm h⟩)
        omega
      · omega
    constructor
    · intro h
      by_cases e : n = m
      · subst e; omega
      · have := (ih n).1 ((me n).2 ⟨e, h⟩); omega
    · rintro ⟨a, b⟩
      by_cases e : n = m
      · subst e; exact hm
      · exact ((me n).1 ((ih n).2 ⟨a, by omega⟩)).2
/-- the numbers of a pen are 1, 2 .. -/
theorem VL.nums {l : List Rc} (h : VL l) (p n : Int) : (∃ r ∈ l, r.pen = p ∧ r.num = n) ↔ 1 ≤ n ∧ n ≤ cntP p l := by
  have hmem : ∀ n, n ∈ (l.filter (fun r => decide (r.pen = p))).map (·.num) ↔ ∃ r ∈ l, r.pen = p ∧ r.num = n := fun n => by
    rw [List.mem_map]
    constructor
    · rintro ⟨r, hr, rfl⟩
      obtain ⟨h1, h2⟩ := List.mem_filter.1 hr
      exact ⟨r, h1, by simpa using h2, rfl⟩
    · rintro ⟨r, hr, h1, rfl⟩
      exact ⟨r, List.mem_filter.2 ⟨hr, by simpa using h1⟩, rfl⟩
  have hd := dense (cntP p l) ((l.filter (fun r => decide (r.pen = p))).map (·.num)) (by rw [List.length_map, cntP, List.countP_eq_length_filter]) ?_ ?_ ?_ n
  · rw [← hmem]; exact hd
  · rw [List.Nodup, List.pairwise_map]
    refine (h.srt.filter _).imp_of_mem fun {a b} ha hb hab => ?_
    have h1 : a.pen = p := by simpa using (List.mem_filter.1 ha).2
    have h2 : b.pen = p := by simpa using (List.mem_filter.1 hb).2
    rw [ls_iff] at hab
    omega
  · intro n hn
    obtain ⟨r, hr, _, rfl⟩ := (hmem n).1 hn
    exact (fm_num (h.fm r hr)).1
  · intro n hn h1
    obtain ⟨r, hr, e, rfl⟩ := (hmem n).1 hn
    obtain ⟨s, hs, g1, g2⟩ := h.down r hr h1
    exact (hmem _).2 ⟨s, hs, g1.trans e, g2⟩
theorem VL.free {l : List Rc} (h : VL l) (p : Int) : ∀ y ∈ l, keyR y ≠ (p, (cntP p l : Int) + 1) := fun y hy e => by
  have e1 : y.pen = p := congrArg Prod.fst e
  have e2 : y.num = (cntP p l : Int) + 1 := congrArg Prod.snd e
  have := (h.nums p y.num).1 ⟨y, hy, e1, rfl⟩
  omega
/-- a record of a pen itself, with the next number -/
def newx (p : Int) (l : List Rc) (x : Rc) : Rc := { x with pen := p, num := (cntP p l : Int) + 1 }
def addM (p : Int) (l : List Rc) (x : Rc) : Option (List Rc) := if vrB p l then (if vrB p (putL l (newx p l x)) then some (putL l (newx p l x)) else none) else none
/-! ### merging -/
def newL (a b : List Rc) : List Rc := b.filter (fun r => (fdR (keyR r) a).isNone)
def conB (a b : List Rc) : Bool := b.any (fun r => match fdR (keyR r) a with | some x => !decide (x = r) | none => false)
def mgL (a b : List Rc) : List Rc := (newL a b).foldl putL a
def mgOk (p : Int) (a : List Rc) (q : Int) (b : List Rc) : Bool := vrB p a && (vrB q b && (!conB a b && decide (a.length + (newL a b).length ≤ 150)))
def mrgM (p : Int) (a : List Rc) (q : Int) (b : List Rc) : Option (List Rc) := if mgOk p a q b then some (mgL a b) else none
def behM (p : Int) (a : List Rc) (q : Int) (b : List Rc) : Option (List Rc) := if mgOk p a q b then some (newL a b) else none
theorem con_iff {a b : List Rc} (ha : (a.map keyR).Nodup) : conB a b = false ↔ ∀ x ∈ a, ∀ y ∈ b, keyR x = keyR y → x = y := by
  unfold conB
  rw [List.any_eq_false]
  constructor
  · intro h x hx y hy e
    have := h y hy
    rw [← e, fd_mem ha hx] at this
    simpa using this
  · intro h y hy
    cases hq : fdR (keyR y) a with
    | none => simp
    | some x =>
      obtain ⟨h1, h2⟩ := fd_some hq
      simp [h x h1 y hy h2]
theorem mem_newL {a b : List Rc} {r : Rc} : r ∈ newL a b ↔ r ∈ b ∧ ∀ x ∈ a, keyR x ≠ keyR r := by
  unfold newL
  rw [List.mem_filter, Option.isNone_iff_eq_none, fd_none]
theorem mg_fold : ∀ (n a : List Rc), a.Pairwise (fun a b => lsB a b = true) → n.Pairwise (fun a b => lsB a b = true) → (∀ x ∈ a, ∀ y ∈ n, keyR x ≠ keyR y) →
    (n.foldl putL a).Pairwise (fun a b => lsB a b = true) ∧ (∀ r, r ∈ n.foldl putL a ↔ r ∈ a ∨ r ∈ n) ∧ (n.foldl putL a).length = a.length + n.length
  | [], a, h, _, _ => ⟨h, fun r => by simp, by simp⟩
  | x :: n, a, h, hn, hk => by
    rw [List.pairwise_cons] at hn
    obtain ⟨h1, h2, h3⟩ := mg_fold n (putL a x) (srt_putL h (fun y hy => hk y hy x (.head _))) hn.2 (fun y hy z hz => by
      rcases mem_putL.1 hy with rfl | hy
      · exact ls_ne (hn.1 z hz)
      · exact hk y hy z (.tail _ hz))
    refine ⟨h1, fun r => ?_, ?_⟩
    · rw [List.foldl_cons, h2, mem_putL, List.mem_cons]
      constructor
      · rintro ((a | a) | a)
        · exact .inr (.inl a)
        · exact .inl a
        · exact .inr (.inr a)
      · rintro (a | a | a)
        · exact .inl (.inr a)
        · exact .inl (.inl a)
        · exact .inr a
    · rw [List.foldl_cons, h3, len_putL, List.length_cons]; omega
theorem mg_spec {a b : List Rc} (ha : VL a) (hb : VL b) (hc : conB a b = false) :
    (mgL a b).Pairwise (fun a b => lsB a b = true) ∧ (∀ r, r ∈ mgL a b ↔ r ∈ a ∨ r ∈ b) ∧ (mgL a b).length = a.length + (newL a b).length ∧ VL (mgL a b) := by
  have hc' := (con_iff ha.nd).1 hc
  obtain ⟨h1, h2, h3⟩ := mg_fold (newL a b) a ha.srt (hb.srt.filter _) (fun x hx y hy => (mem_newL.1 hy).2 x hx)
  have hm : ∀ r, r ∈ mgL a b ↔ r ∈ a ∨ r ∈ b := fun r => by
    unfold mgL
    rw [h2, mem_newL]
    constructor
    · rintro (h | ⟨h, _⟩)
      · exact .inl h
      · exact .inr h
    · rintro (h | h)
      · exact .inl h
      · by_cases hr : r ∈ a
        · exact .inl hr
        · exact .inr ⟨h, fun x hx e => hr (by rw [← hc' x hx r h e]; exact hx)⟩
  exact ⟨h1, hm, h3, vl_join ha hb hc' h1 hm⟩
theorem vr_iff {p : Int} {l : List Rc} : vrB p l = true ↔ (0 ≤ p ∧ p ≤ 39) ∧ l.length ≤ 150 ∧ VL l := by
  simp [vrB, vl_iff, inB]
theorem mg_valid {p q : Int} {a b : List Rc} (h : mgOk p a q b = true) : vrB p (mgL a b) = true := by
  simp only [mgOk, Bool.and_eq_true, Bool.not_eq_true', decide_eq_true_eq] at h
  obtain ⟨h1, h2, h3, h4⟩ := h
  obtain ⟨g1, g2, g3⟩ := vr_iff.1 h1
  obtain ⟨k1, k2, k3⟩ := vr_iff.1 h2
  obtain ⟨s1, s2, s3, s4⟩ := mg_spec g3 k3 h3
  exact vr_iff.2 ⟨g1, by omega, s4⟩
/-- the package's way: both lists sorted together, and what stands twice once -/
def cpL : List Rc → List Rc
  | [] => []
  | [x] => [x]
  | x :: y :: l => if x = y then cpL (y :: l) else x :: cpL (y :: l)
theorem mem_cpL : ∀ (l : List Rc) (r : Rc), r ∈ cpL l ↔ r ∈ l
  | [], r => Iff.rfl
  | [x], r => Iff.rfl
  | x :: y :: l, r => by
    have ih := mem_cpL (y :: l) r
    unfold cpL
    by_cases e : x = y
    · subst e
      rw [if_pos rfl, ih]
      simp
    · rw [if_neg e]; simp only [List.mem_cons, ih]
theorem srt_cpL : ∀ (l : List Rc), (∀ x ∈ l, ∀ y ∈ l, keyR x = keyR y → x = y) → l.Pairwise (fun a b => lsB b a = false) → (cpL l).Pairwise (fun a b => lsB a b = true)
  | [], _, _ => List.Pairwise.nil
  | [x], _, _ => by simp [cpL]
  | x :: y :: l, hk, hs => by
    rw [List.pairwise_cons] at hs
    have ih := srt_cpL (y :: l) (fun a ha b hb => hk a (.tail _ ha) b (.tail _ hb)) hs.2
    unfold cpL
    by_cases e : x = y
    · rw [if_pos e]; exact ih
    · rw [if_neg e, List.pairwise_cons]
      refine ⟨fun z hz => ?_, ih⟩
      have hz' := (mem_cpL _ _).1 hz
      have hs2 := hs.2
      rw [List.pairwise_cons] at hs2
      have hxy : lsB x y = true := by
        rcases ls_tri x y with h | h | h
        · exact h
        · exact absurd (hk x (.head _) y (.tail _ (.head _)) h) e
        · rw [hs.1 y (.head _)] at h; cases h
      rcases List.mem_cons.1 hz' with rfl | hz'
      · exact hxy
      · have h1 := hs2.1 z hz'
        rcases ls_tri y z with h | h | h
        · exact ls_trans hxy h
        · have := hk y (.tail _ (.head _)) z (.tail _ (.tail _ hz')) h
          subst this; exact hxy
        · rw [h1] at h; cases h
theorem cp_mg {a b s : List Rc} (ha : VL a) (hb : VL b) (hc : conB a b = false) (hp : s.Perm (a ++ b)) (hs : s.Pairwise (fun a b => lsB b a = false)) : cpL s = mgL a b := by
  obtain ⟨h1, h2, _⟩ := mg_spec ha hb hc
  have hc' := (con_iff ha.nd).1 hc
  have hm : ∀ r, r ∈ s ↔ r ∈ a ∨ r ∈ b := fun r => by rw [hp.mem_iff, List.mem_append]
  refine sort_uniq (fun a b => ls_asym) (srt_cpL s (fun x hx y hy e => ?_) hs) h1 (fun r => by rw [mem_cpL, hm, h2])
  rcases (hm x).1 hx with h | h <;> rcases (hm y).1 hy with g | g
  · exact key_eq ha.nd h g e
  · exact hc' x h y g e
  · exact (hc' y g x h e.symm).symm
  · exact key_eq hb.nd h g e
theorem cp_put {a s : List Rc} {x : Rc} (ha : VL a) (hk : ∀ y ∈ a, keyR y ≠ keyR x) (hp : s.Perm (a ++ [x])) (hs : s.Pairwise (fun a b => lsB b a = false)) : cpL s = putL a x := by
  have hm : ∀ r, r ∈ s ↔ r = x ∨ r ∈ a := fun r => by rw [hp.mem_iff, List.mem_append, List.mem_singleton, or_comm]
  refine sort_uniq (fun a b => ls_asym) (srt_cpL s (fun u hu v hv e => ?_) hs) (srt_putL ha.srt hk) (fun r => by rw [mem_cpL, hm, mem_putL])
  rcases (hm u).1 hu with rfl | h <;> rcases (hm v).1 hv with rfl | g
  · rfl
  · exact absurd e.symm (hk v g)
  · exact absurd e (hk u h)
  · exact key_eq ha.nd h g e
end Go.Proofs.YtcfbgelhggapjaaGreatDoor
/- Plain words on replicas: the order in which records come, roots, families, what holds. No program here. -/
namespace Go.Proofs.YtcfbgelhggapjaaGreatDoor
def leB (a b : Rc) : Bool := !bfB b a
def ordL (l : List Rc) : List Rc := l.mergeSort leB
theorem ord_perm (l : List Rc) : (ordL l).Perm l := List.mergeSort_perm l leB
theorem mem_ord {l : List Rc} {r : Rc} : r ∈ ordL l ↔ r ∈ l := (ord_perm l).mem_iff
theorem bf_not {a b : Rc} : bfB a b = false ↔ (b.at_ < a.at_ ∨ (b.at_ = a.at_ ∧ (b.pen < a.pen ∨ (b.pen = a.pen ∧ b.num ≤ a.num)))) := by
  rw [← Bool.not_eq_true, bf_iff]; omega
theorem ord_le (l : List Rc) : (ordL l).Pairwise (fun a b => bfB b a = false) := by
  have h := List.pairwise_mergeSort (le := leB) (fun a b c h1 h2 => by
    simp only [leB, Bool.not_eq_true'] at *
    rw [bf_not] at *
    omega) (fun a b => by
    simp only [leB]
    cases h : bfB b a with
    | false => rfl
    | true => rw [bf_asym h]; rfl) l
  exact h.imp fun {a b} h => by simpa [leB] using h
/-- distinct keys: one of two comes before the other -/
theorem lt_of_le {a b : Rc} (h : bfB b a = false) (hk : keyR a ≠ keyR b) : bfB a b = true := by
  rcases bf_tri a b with g | g | g
  · exact g
  · exact absurd g hk
  · rw [h] at g; cases g
theorem strict_of {l : List Rc} (hn : (l.map keyR).Nodup) (h : l.Pairwise (fun a b => bfB b a = false)) : l.Pairwise (fun a b => bfB a b = true) := by
  rw [List.Nodup, List.pairwise_map] at hn
  exact (h.and hn).imp fun {a b} h => lt_of_le h.1 h.2
theorem ord_nd {l : List Rc} (hn : (l.map keyR).Nodup) : ((ordL l).map keyR).Nodup := ((ord_perm l).map keyR).nodup_iff.2 hn
theorem ord_srt {l : List Rc} (hn : (l.map keyR).Nodup) : (ordL l).Pairwise (fun a b => bfB a b = true) := strict_of (ord_nd hn) (ord_le l)
/-- whatever is sorted and has the same records is this list -/
theorem ord_uniq {l s : List Rc} (hn : (l.map keyR).Nodup) (hs : s.Pairwise (fun a b => bfB a b = true)) (hm : ∀ r, r ∈ s ↔ r ∈ l) : s = ordL l :=
  sort_uniq (fun a b => bf_asym) hs (ord_srt hn) (fun r => by rw [hm, mem_ord])
theorem ord_of_perm {l s : List Rc} (hn : (l.map keyR).Nodup) (hp : s.Perm l) (hs : s.Pairwise (fun a b => bfB b a = false)) : s = ordL l :=
  ord_uniq hn (strict_of ((hp.map keyR).nodup_iff.2 hn) hs) (fun _ => hp.mem_iff)
theorem nd_filter {l : List Rc} (f : Rc → Bool) (hn : (l.map keyR).Nodup) : ((l.filter f).map keyR).Nodup := hn.sublist (List.filter_sublist.map _)
theorem ord_filter {l : List Rc} (f : Rc → Bool) (hn : (l.map keyR).Nodup) : ordL (l.filter f) = (ordL l).filter f := by
  symm
  exact ord_uniq (nd_filter f hn) ((ord_srt hn).filter _) (fun r => by rw [List.mem_filter, List.mem_filter, mem_ord])
/-! ### roots -/
def rtF (l : List Rc) : Nat → Rc → Rc
  | 0, r => r
  | f + 1, r => if rootB r then r else match fdR (tgt r) l with | some o => rtF l f o | none => r
def rank (l : List Rc) (r : Rc) : Nat := l.countP (fun s => bfB s r)
def rootR (l : List Rc) (r : Rc) : Rc := rtF l l.length r
theorem count_lt {l : List Rc} {f g : Rc → Bool} (h : ∀ x ∈ l, f x = true → g x = true) {y : Rc} (hy : y ∈ l) (hf : f y = false) (hg : g y = true) : l.countP f < l.countP g := by
  induction l with
  | nil => cases hy
  | cons x l ih =>
    have hm : l.countP f ≤ l.countP g := List.countP_mono_left fun x hx => h x (.tail _ hx)
    rw [List.countP_cons, List.countP_cons]
    rcases List.mem_cons.1 hy with rfl | hy
    · rw [hf, hg]; simp; omega
    · have := ih (fun x hx => h x (.tail _ hx)) hy
      have hx := h x (.head _)
      by_cases h1 : f x = true
      · rw [h1, hx h1]; simp; omega
      · rw [Bool.not_eq_true] at h1; rw [h1]; simp; omega
theorem rank_lt {l : List Rc} {o r : Rc} (ho : o ∈ l) (h : bfB o r = true) : rank l o < rank l r :=
  count_lt (fun _ _ hx => bf_trans hx h) ho (bf_irr o) h
theorem rank_le (l : List Rc) (r : Rc) : rank l r ≤ l.length := List.countP_le_length
section
variable {l : List Rc}
theorem VL.tgt (h : VL l) {r : Rc} (hr : r ∈ l) (hn : rootB r = false) : ∃ o ∈ l, fdR (tgt r) l = some o ∧ keyR o = Go.Proofs.YtcfbgelhggapjaaGreatDoor.tgt r ∧ bfB o r = true := by
  rcases h.snd r hr with g | ⟨o, ho, h1, h2⟩
  · rw [hn] at g; cases g
  · exact ⟨o, ho, (fd_iff h.nd).2 ⟨ho, h1⟩, h1, h2⟩
theorem rt_more (h : VL l) : ∀ (f g : Nat) (r : Rc), r ∈ l → rank l r ≤ f → rank l r ≤ g → rtF l f r = rtF l g r ∧ rtF l f r ∈ l ∧ rootB (rtF l f r) = true ∧ (rtF l f r = r ∨ bfB (rtF l f r) r = true) := by
  intro f
  induction f with
  | zero =>
    intro g r hr hf hg
    have hroot : rootB r = true := by
      cases hn : rootB r with
      | true => rfl
      | false =>
        obtain ⟨o, ho, _, _, h2⟩ := h.tgt hr hn
        have := rank_lt ho h2
        omega
    refine ⟨?_, hr, hroot, .inl rfl⟩
    cases g with
    | zero => rfl
    | succ g => simp [rtF, hroot]
  | succ f ih =>
    intro g r hr hf hg
    cases hn : rootB r with
    | true =>
      have : ∀ f, rtF l f r = r := fun f => by cases f with | zero => rfl | succ f => simp [rtF, hn]
      rw [this, this]
      exact ⟨rfl, hr, hn, .inl rfl⟩
    | false =>
      obtain ⟨o, ho, h0, _, h2⟩ := h.tgt hr hn
      have hlt := rank_lt ho h2
      have e : ∀ f, rtF l (f + 1) r = rtF l f o := fun f => by simp [rtF, hn, h0]
      obtain ⟨g', rfl⟩ : ∃ g', g = g' + 1 := ⟨g - 1, by omega⟩
      rw [e, e]
      obtain ⟨i1, i2, i3, i4⟩ := ih g' o ho (by omega) (by omega)
      refine ⟨i1, i2, i3, .inr ?_⟩
      rcases i4 with i4 | i4
      · rw [i4]; exact h2
      · exact bf_trans i4 h2
theorem root_mem (h : VL l) {r : Rc} (hr : r ∈ l) : rootR l r ∈ l := (rt_more h _ _ r hr (rank_le l r) (rank_le l r)).2.1
theorem root_root (h : VL l) {r : Rc} (hr : r ∈ l) : rootB (rootR l r) = true := (rt_more h _ _ r hr (rank_le l r) (rank_le l r)).2.2.1
theorem root_bf (h : VL l) {r : Rc} (hr : r ∈ l) : rootR l r = r ∨ bfB (rootR l r) r = true := (rt_more h _ _ r hr (rank_le l r) (rank_le l r)).2.2.2
theorem root_self {r : Rc} (hr : rootB r = true) : rootR l r = r := by
  unfold rootR
  cases l.length with
  | zero => rfl
  | succ f => simp [rtF, hr]
theorem root_step (h : VL l) {r o : Rc} (hr : r ∈ l) (hn : rootB r = false) (ho : fdR (tgt r) l = some o) : rootR l r = rootR l o := by
  obtain ⟨o', ho', h0, _, h2⟩ := h.tgt hr hn
  rw [ho] at h0
  obtain rfl := Option.some.inj h0
  have h1 := rt_more h (l.length + 1) l.length r hr (by have := rank_le l r; omega) (rank_le l r)
  unfold rootR
  rw [← h1.1]
  simp [rtF, hn, ho]
/-- the records of a root, in the order in which they come -/
def famL (l : List Rc) (k : I2) : List Rc := (ordL l).filter (fun r => decide (keyR (rootR l r) = k))
def histL (l : List Rc) (k : I2) : Option (List Rc) := (fdR k l).map (fun r => famL l (keyR (rootR l r)))
def holdR (l : List Rc) (r : Rc) : Option Rc := match (famL l (keyR r)).getLast? with | some x => if x.text.size = 0 then none else some x | none => none
def foldL (l : List Rc) : List Rc := ((ordL l).filter rootB).filterMap (holdR l)
theorem mem_fam {k : I2} {r : Rc} : r ∈ famL l k ↔ r ∈ l ∧ keyR (rootR l r) = k := by
  unfold famL
  rw [List.mem_filter, mem_ord, decide_eq_true_eq]
theorem fam_srt (h : VL l) (k : I2) : (famL l k).Pairwise (fun a b => bfB a b = true) := (ord_srt h.nd).filter _
/-- a root's family begins with it -/
theorem fam_head (h : VL l) {r : Rc} (hr : r ∈ l) (hb : rootB r = true) : ∃ t, famL l (keyR r) = r :: t := by
  have hm : r ∈ famL l (keyR r) := mem_fam.2 ⟨hr, by rw [root_self hb]⟩
  have hs := fam_srt h (keyR r)
  cases hf : famL l (keyR r) with
  | nil => rw [hf] at hm; cases hm
  | cons x t =>
    rw [hf] at hm hs
    rw [List.pairwise_cons] at hs
    rcases List.mem_cons.1 hm with rfl | ht
    · exact ⟨t, rfl⟩
    · exfalso
      have hx : x ∈ famL l (keyR r) := by rw [hf]; exact .head _
      obtain ⟨hxl, hxr⟩ := mem_fam.1 hx
      have e : rootR l x = r := key_eq h.nd (root_mem h hxl) hr hxr
      have h1 := hs.1 r ht
      rcases root_bf h hxl with g | g
      · rw [e] at g; subst g; rw [bf_irr] at h1; cases h1
      · rw [e, bf_asym h1] at g; cases g
end
end Go.Proofs.YtcfbgelhggapjaaGreatDoor
/- A region that draws its order, whose calls make memory but leave what stood as it was: one walk in the order of the text. -/
namespace Go.Proofs.YtcfbgelhggapjaaGreatDoor
open Go.RowKit
/-- a world in which all that stood in w0 is as it was -/
structure BW (w0 : World) where
  val : World
  ok : Below w0.heap.size w0 val
instance (w0 : World) : Inhabited (BW w0) := ⟨⟨w0, Below.refl _ _⟩⟩
section
variable {P : Program}
theorem wp_region_bw (w0 : World) {id : Nat} {Q : Exit → Act → World → Prop} {a : Act} {w : World} {l : List Oper} (hw : Below w0.heap.size w0 w) (hm : P.follows .mixedOrders = true) (hB : Region.lexB .any l.toArray = true)
    (h : wpQuiet P l.toArray (fun w' => ∃ x : BW w0, w' = x.val) (fun a' => ∀ w', Below w0.heap.size w0 w' → Q .normal a' w') l a) : (Code.region id l.toArray true).wp P Q a w :=
  wp_region_quiet (C := fun w' => ∃ x : BW w0, w' = x.val) hm hB ⟨⟨w.drew, bdrew hw⟩, rfl⟩ (by
    have e : (fun a' => ∀ w', (∃ x : BW w0, w' = x.val) → Q .normal a' w') = (fun a' => ∀ w', Below w0.heap.size w0 w' → Q .normal a' w') := by
      funext a'
      exact propext ⟨fun h w' hb => h w' ⟨⟨w', hb⟩, rfl⟩, fun h w' ⟨x, hx⟩ => h w' (hx ▸ x.ok)⟩
    rw [e]
    simpa using h)
theorem bw_call {w0 : World} {f : FuncId} {args : Array Value} {x : BW w0} {v : Value} (h : Calls P f args x.val fun e w' => e = .returned v ∧ Below x.val.heap.size x.val w') :
    Calls P f args x.val fun e w'' => e = .returned v ∧ ∃ y : BW w0, w'' = y.val :=
  h.mono fun _ w' ⟨he, hb⟩ => ⟨he, ⟨w', bthen x.ok hb⟩, rfl⟩
theorem bw_same {w0 : World} {f : FuncId} {args : Array Value} {x : BW w0} {v : Value} (h : Calls P f args x.val fun e w' => e = .returned v ∧ x.val = w') :
    Calls P f args x.val fun e w'' => e = .returned v ∧ ∃ y : BW w0, w'' = y.val :=
  h.mono fun _ _ ⟨he, hb⟩ => ⟨he, x, hb.symm⟩
theorem SlR.bw3 {w0 : World} {b off n k : Nat} {l : List I3} (h : SlR w0 w0.heap.size 3 (some ⟨b, off, none⟩) n (l.flatMap c3)) (hk : k < l.length) :
    (∀ x : BW w0, x.val.cell? ⟨b, off + k * 3, none⟩ = some (.int .i64 l[k].1)) ∧ (∀ x : BW w0, x.val.cell? ⟨b, off + k * 3 + 1, none⟩ = some (.int .i64 l[k].2.1)) ∧ (∀ x : BW w0, x.val.cell? ⟨b, off + k * 3 + 2, none⟩ = some (.int .i64 l[k].2.2)) := by
  have hn : n = l.length := by
    have := h.1
    rw [flat_len c3 3 (fun _ => rfl)] at this
    omega
  subst hn
  have key := fun x : BW w0 => h.at3 x.ok hk
  refine ⟨fun x => ?_, fun x => ?_, fun x => ?_⟩ <;> (obtain ⟨b', off', e, _, h0, h1, h2⟩ := key x; cases e; assumption)
end
end Go.Proofs.YtcfbgelhggapjaaGreatDoor
