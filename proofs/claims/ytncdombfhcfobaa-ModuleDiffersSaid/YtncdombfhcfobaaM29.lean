/- What an instance comes to, in plain words; what abides a round. -/
import Derived.Test.YtncdombfhcfobaaM28
namespace Go.Proofs.Ytncdombfhcfobaa
open Go.RowKit
section
variable {n0 n1 : Nat} {A B : World}
theorem own_kee {b n k : Nat} {e : TypeId} {v : Value} {xs : List Value} (h : A.ownsRow b e k v n xs) (hK : Kee n0 n1 A B) (hb : n1 ≤ b) (he : e ≠ 62 := by decide) : B.ownsRow b e k v n xs := by
  refine ⟨h.1, ?_⟩
  rcases h.2 with h | ⟨g, c', cur, q1, q2, q3, q4⟩
  · exact .inl h
  · exact .inr ⟨g, c', cur, q1, q2, hK.keep g _ (by omega) q3 (by simpa [plainO] using he), q4⟩
theorem Blk.kee {g : Nat} {t : TypeId} {cs : List Value} (h : Blk A g t cs) (hK : Kee n0 n1 A B) (hg : n1 ≤ g) (ht : t ≠ 62 := by decide) : Blk B g t cs := hK.keep g _ hg h (by simpa [plainO] using ht)
/-- a slice that is read, in a block that the rounds leave alone -/
def RdK (n0 n1 : Nat) (W : World) (k : Nat) (a : Option Addr) (n : Nat) (xs : List Value) : Prop :=
  SlR W W.heap.size k a n xs ∧ (0 < n → ∀ p, a = some p → p.block < n0 ∨ n1 ≤ p.block ∧ ∃ o, W.heap[p.block]? = some o ∧ plainO o = true)
theorem RdK.kee {k n : Nat} {a : Option Addr} {xs : List Value} (h : RdK n0 n1 A k a n xs) (hK : Kee n0 n1 A B) : RdK n0 n1 B k a n xs := by
  have hs := hK.below.size
  refine ⟨⟨h.1.1, fun hne => ?_⟩, fun hne p hp => ?_⟩
  · obtain ⟨b, off, ha, hb, hc⟩ := h.1.2 hne
    refine ⟨b, off, ha, by omega, fun j u hu => ?_⟩
    have hcell := hc j u hu
    have hblk : B.heap[b]? = A.heap[b]? := by
      rcases h.2 (by omega) _ ha with h1 | ⟨h1, o, ho, hp⟩
      · exact hK.below.block b h1
      · exact (hK.keep b o h1 ho hp).trans ho.symm
    exact (World.cell?_of_block (w := A) (w' := B) (a := ⟨b, off + j, none⟩) hblk).trans hcell
  · rcases h.2 hne p hp with h1 | ⟨h1, o, ho, hpl⟩
    · exact .inl h1
    · exact .inr ⟨h1, o, hK.keep _ o h1 ho hpl, hpl⟩
theorem RdK.below {k n : Nat} {a : Option Addr} {xs : List Value} (h : RdK n0 n1 A k a n xs) (hb : Below A.heap.size A B) (hn : n0 ≤ A.heap.size) : RdK n0 n1 B k a n xs := h.kee (Kee.of_below hn hb)
theorem RdK.old {k n : Nat} {a : Option Addr} {xs : List Value} (h : SlR A n0 k a n xs) (hn : n0 ≤ A.heap.size) : RdK n0 n1 A k a n xs := by
  refine ⟨h.more hn, fun h0 p hp => ?_⟩
  obtain ⟨b, off, ha, hb, _⟩ := h.2 (by omega)
  rw [ha] at hp; cases hp; exact .inl hb
theorem RdK.own {k n c b : Nat} {e : TypeId} {a : Option Addr} {xs : List Value} (h : A.ownsRow b e k (.slice a n c) n xs) (hb : n1 ≤ b) (he : e ≠ 62 := by decide) : RdK n0 n1 A k a n xs := by
  refine ⟨(own_row h).2.2, fun _ p hp => ?_⟩
  rcases h.2 with h' | ⟨g, c', cur, q1, q2, q3, q4⟩
  · have := h'.1
    simp only [Value.slice.injEq] at this
    rw [this.1] at hp; cases hp
  · simp only [Value.slice.injEq] at q1
    rw [q1.1] at hp; cases hp
    exact .inr ⟨by simp only; omega, _, q3, by simpa [plainO] using he⟩
end
/-- what items come to at a place: boxes, and, ahead of what is in them, inner modules; each with its kind -/
def plc (ms : List Mo) : Nat → List It → List Int → Int → Int → List (Pl × Int)
  | 0, _, _, _, _ => []
  | f + 1, l, path, x, y => l.flatMap fun s => (⟨path ++ [s.id], x + s.x, y + s.y, s.text⟩, s.kind) :: plc ms f (itemsOf ms s.mod) (path ++ [s.id]) (x + s.x) (y + s.y)
/-- f levels are enough -/
def Dp (ms : List Mo) : Nat → List It → Prop
  | 0, l => l = []
  | f + 1, l => ∀ s ∈ l, Dp ms f (itemsOf ms s.mod)
theorem plc_more (ms : List Mo) : ∀ (f : Nat) (l : List It) (path : List Int) (x y : Int), Dp ms f l → plc ms (f + 1) l path x y = plc ms f l path x y
  | 0, l, path, x, y, h => by rw [show l = [] from h]; rfl
  | f + 1, l, path, x, y, h => by
    have key : ∀ s ∈ l, plc ms (f + 1) (itemsOf ms s.mod) (path ++ [s.id]) (x + s.x) (y + s.y) = plc ms f (itemsOf ms s.mod) (path ++ [s.id]) (x + s.x) (y + s.y) := fun s hs => plc_more ms f _ _ _ _ (h s hs)
    show (l.flatMap fun s => (⟨path ++ [s.id], x + s.x, y + s.y, s.text⟩, s.kind) :: plc ms (f + 1) (itemsOf ms s.mod) (path ++ [s.id]) (x + s.x) (y + s.y)) = l.flatMap fun s => (⟨path ++ [s.id], x + s.x, y + s.y, s.text⟩, s.kind) :: plc ms f (itemsOf ms s.mod) (path ++ [s.id]) (x + s.x) (y + s.y)
    clear h
    induction l with
    | nil => rfl
    | cons s l ih =>
      rw [List.flatMap_cons, List.flatMap_cons, key s (by simp), ih (fun t ht => key t (by simp [ht]))]
end Go.Proofs.Ytncdombfhcfobaa
