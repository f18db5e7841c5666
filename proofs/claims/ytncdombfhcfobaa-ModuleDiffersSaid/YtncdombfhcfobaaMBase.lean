/- Plain words on items of a module, and on lists of them in memory. No program here. -/
import Derived.Test.YtncdombfhcfobaaSl2
import Derived.Test.YtncdombfhcfobaaIMap2
namespace Go.Proofs.Ytncdombfhcfobaa
open Go.RowKit
structure It where
  id : Int
  kind : Int
  x : Int
  y : Int
  text : ByteArray
  mod : Int
theorem It.ext_iff' (a b : It) : a = b ↔ (a.id = b.id ∧ a.kind = b.kind ∧ a.x = b.x ∧ a.y = b.y ∧ a.text = b.text ∧ a.mod = b.mod) := by
  cases a; cases b; simp
instance : DecidableEq It := fun a b => decidable_of_iff' _ (It.ext_iff' a b)
def zIt : It := ⟨0, 0, 0, 0, ByteArray.empty, 0⟩
instance : Inhabited It := ⟨zIt⟩
def cI (s : It) : List Value := [.int .i64 s.id, .int .i64 s.kind, .int .i64 s.x, .int .i64 s.y, .string s.text, .int .i64 s.mod]
abbrev itV (s : It) : Value := .agg #[.int .i64 s.id, .int .i64 s.kind, .int .i64 s.x, .int .i64 s.y, .string s.text, .int .i64 s.mod]
theorem itV_eq (s : It) : Value.agg (cI s).toArray = itV s := rfl
theorem oneI (l : List It) (u : Value) (h : u ∈ l.flatMap cI) : u.oneCell' = true := by
  obtain ⟨s, _, hu⟩ := List.mem_flatMap.1 h
  simp only [cI, List.mem_cons, List.not_mem_nil, or_false] at hu
  rcases hu with rfl | rfl | rfl | rfl | rfl | rfl <;> rfl
def cN (n : Int) : List Value := [.int .i64 n]
theorem oneN (l : List Int) (u : Value) (h : u ∈ l.flatMap cN) : u.oneCell' = true := by
  obtain ⟨s, _, hu⟩ := List.mem_flatMap.1 h
  simp only [cN, List.mem_cons, List.not_mem_nil, or_false] at hu
  rcases hu with rfl; rfl
section
variable {w w' : World} {B n k : Nat} {A : Option Addr}
theorem SlR.to' {xs : List Value} (h : SlR w w.heap.size k A n xs) (hb : Below w.heap.size w w') : SlR w' w'.heap.size k A n xs := (h.below hb).more hb.size
theorem SlR.lenI {l : List It} (h : SlR w B 6 A n (l.flatMap cI)) : l.length = n := by
  have := h.1
  rw [flat_len cI 6 (fun _ => rfl)] at this
  omega
theorem SlR.lenN {l : List Int} (h : SlR w B 1 A n (l.flatMap cN)) : l.length = n := by
  have := h.1
  rw [flat_len cN 1 (fun _ => rfl)] at this
  omega
theorem SlR.lenM {l : List (Int × Value)} {c : Int × Value → List Value} (hc : ∀ a, (c a).length = 2) (h : SlR w B 2 A n (l.flatMap c)) : l.length = n := by
  have := h.1
  rw [flat_len c 2 hc] at this
  omega
theorem SlR.atI {l : List It} {wr : World} (h : SlR w B 6 A n (l.flatMap cI)) (hb : Below B w wr) {k : Nat} (hk : k < l.length) :
    ∃ b off, A = some ⟨b, off, none⟩ ∧ b < B ∧ wr.cell? ⟨b, off + k * 6, none⟩ = some (.int .i64 l[k].id) ∧ wr.cell? ⟨b, off + k * 6 + 1, none⟩ = some (.int .i64 l[k].kind) ∧ wr.cell? ⟨b, off + k * 6 + 2, none⟩ = some (.int .i64 l[k].x) ∧
      wr.cell? ⟨b, off + k * 6 + 3, none⟩ = some (.int .i64 l[k].y) ∧ wr.cell? ⟨b, off + k * 6 + 4, none⟩ = some (.string l[k].text) ∧ wr.cell? ⟨b, off + k * 6 + 5, none⟩ = some (.int .i64 l[k].mod) := by
  obtain ⟨b, off, e, hbb, hc⟩ := h.2 (by have := h.lenI; omega)
  have g := flat_get cI 6 (fun _ => rfl) l k hk
  refine ⟨b, off, e, hbb, ?_, ?_, ?_, ?_, ?_, ?_⟩
  · exact (hb.cell (p := ⟨b, _, none⟩) hbb).trans (hc (k * 6) _ (g 0 (by omega)))
  · exact (hb.cell (p := ⟨b, _, none⟩) hbb).trans (hc (k * 6 + 1) _ (by simpa [cI] using g 1 (by omega)))
  · exact (hb.cell (p := ⟨b, _, none⟩) hbb).trans (hc (k * 6 + 2) _ (by simpa [cI] using g 2 (by omega)))
  · exact (hb.cell (p := ⟨b, _, none⟩) hbb).trans (hc (k * 6 + 3) _ (by simpa [cI] using g 3 (by omega)))
  · exact (hb.cell (p := ⟨b, _, none⟩) hbb).trans (hc (k * 6 + 4) _ (by simpa [cI] using g 4 (by omega)))
  · exact (hb.cell (p := ⟨b, _, none⟩) hbb).trans (hc (k * 6 + 5) _ (by simpa [cI] using g 5 (by omega)))
theorem SlR.atN {l : List Int} {wr : World} (h : SlR w B 1 A n (l.flatMap cN)) (hb : Below B w wr) {k : Nat} (hk : k < l.length) :
    ∃ b off, A = some ⟨b, off, none⟩ ∧ b < B ∧ wr.cell? ⟨b, off + k, none⟩ = some (.int .i64 l[k]) := by
  obtain ⟨b, off, e, hbb, hc⟩ := h.2 (by have := h.lenN; omega)
  have g := flat_get cN 1 (fun _ => rfl) l k hk 0 (by omega)
  refine ⟨b, off, e, hbb, ?_⟩
  exact (hb.cell (p := ⟨b, _, none⟩) hbb).trans (hc k _ (by simpa [cN] using g))
theorem Blk.allI {g : Nat} {t : TypeId} {s : It} (h : Blk w g t (cI s)) : w.cell? ⟨g, 0, none⟩ = some (.int .i64 s.id) ∧ w.cell? ⟨g, 1, none⟩ = some (.int .i64 s.kind) ∧ w.cell? ⟨g, 2, none⟩ = some (.int .i64 s.x) ∧
    w.cell? ⟨g, 3, none⟩ = some (.int .i64 s.y) ∧ w.cell? ⟨g, 4, none⟩ = some (.string s.text) ∧ w.cell? ⟨g, 5, none⟩ = some (.int .i64 s.mod) :=
  ⟨h.cell 0, h.cell 1, h.cell 2, h.cell 3, h.cell 4, h.cell 5⟩
end
/-- A slice value that holds these cells, k cells an element. -/
def Sl (w : World) (k : Nat) (xs : List Value) (v : Value) : Prop := ∃ A n c, v = .slice A n c ∧ n ≤ c ∧ c ≤ 9223372036854775807 ∧ SlR w w.heap.size k A n xs
section
variable {w w' : World} {k : Nat} {xs : List Value} {v : Value}
theorem Sl.to (h : Sl w k xs v) (hb : Below w.heap.size w w') : Sl w' k xs v := by
  obtain ⟨A, n, c, e, h1, h2, h3⟩ := h
  exact ⟨A, n, c, e, h1, h2, h3.to' hb⟩
theorem Sl.mk {A : Option Addr} {n c : Nat} (h1 : n ≤ c) (h2 : c ≤ 9223372036854775807) (h3 : SlR w w.heap.size k A n xs) : Sl w k xs (.slice A n c) := ⟨A, n, c, rfl, h1, h2, h3⟩
theorem Sl.nil : Sl w k [] (.slice none 0 0) := ⟨none, 0, 0, rfl, Nat.le_refl _, by omega, SlR.nil⟩
theorem Sl.own {base n : Nat} {e : TypeId} (h : w.ownsRow base e k v n xs) : Sl w k xs v := by
  obtain ⟨A, c, rfl, h1, h2, h3⟩ := SlR.of_own h
  exact ⟨A, n, c, rfl, h1, by simpa [maxLen] using h2, h3⟩
end
/-! ### plain words -/
def ascB (lo hi : Int) : Int → List Int → Bool
  | _, [] => true
  | p, n :: l => inB n lo hi && decide (p < n) && ascB lo hi n l
def itOk (s : It) : Bool := (inB s.x 0 4095 && inB s.y 0 4095) && ((decide (s.kind = 1) && decide (s.text.size ≤ 40) && decide (s.mod = 0)) || (decide (s.kind = 2) && decide (s.text = ByteArray.empty) && inB s.mod 1 20))
def itsOk (l : List It) : Bool := decide (l.length ≤ 12) && ascB 0 99 (-1) (l.map (·.id)) && l.all itOk
theorem flatI_snoc (l : List It) (s : It) : (l ++ [s]).flatMap cI = l.flatMap cI ++ cI s := by simp
theorem flatN_snoc (l : List Int) (s : Int) : (l ++ [s]).flatMap cN = l.flatMap cN ++ cN s := by simp
end Go.Proofs.Ytncdombfhcfobaa
