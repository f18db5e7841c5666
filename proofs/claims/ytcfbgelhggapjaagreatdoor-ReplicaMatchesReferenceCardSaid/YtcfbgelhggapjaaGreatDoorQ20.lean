/- What the law of the code needs besides: sizes, bytes in memory, a row of strings. -/
import Derived.Test.YtcfbgelhggapjaaGreatDoorQ18
namespace Go.Proofs.YtcfbgelhggapjaaGreatDoor
open Go.RowKit Go.Shelf
theorem encI_size2 {n : Int} (h1 : -maxI ≤ n) (h2 : n ≤ maxI) : 0 < (encI n).size ∧ (encI n).size ≤ 9 := by
  have h := decI_enc (s := encI n) (a := 0) (n := n) (rest := []) (by rw [bN_encI]; simp) h1 h2
  have h3 := decI_some (Nat.zero_le _) h
  rw [← bN_len, bN_encI]
  omega
theorem encR_size {r : Rc} (h : fmB r = true) : 0 < (encR r).size ∧ (encR r).size ≤ 5000 := by
  have hf := fm_num h
  have ha := fm_all h
  have hm : maxI = 4611686018427387903 := rfl
  have e1 := encI_size2 (n := r.pen) (by omega) (by omega)
  have e2 := encI_size2 (n := r.num) (by omega) (by omega)
  have e3 := encI_size2 (n := r.at_) (by omega) (by omega)
  have e4 := encI_size2 (n := r.of + 1) (by omega) (by omega)
  have e5 := encI_size2 (n := r.which) (by omega) (by omega)
  have e6 := encI_size2 (n := r.kind) (by omega) (by omega)
  have e7 := encI_size2 (n := r.text.size) (by omega) (by omega)
  unfold encR encS
  simp only [ByteArray.size_append]
  have : ByteArray.empty.size = 0 := rfl
  omega
theorem wf_u8 {n : Int} (h : (Lit.int .u8 n).wf = true) : 0 ≤ n ∧ n ≤ 255 := by
  have h1 : IntKind.u8.min = 0 := by decide
  have h2 : IntKind.u8.max = 255 := by decide
  simp only [Lit.wf, Bool.and_eq_true, decide_eq_true_eq, h1, h2] at h
  exact h
/-- bytes that lie in a block, each free to be written -/
def ByR (W : World) (g : Nat) (l : List Nat) : Prop := g < W.heap.size ∧ ∀ i (hi : i < l.length), W.cell? ⟨g, i, none⟩ = some (.int .u8 (l[i] : Int)) ∧ W.frozen? ⟨g, i, none⟩ = false
theorem bN_at (s : ByteArray) (i : Nat) (h : i < (bN s).length) : (bN s)[i] = (s.data[i]'(by rw [bN_len] at h; exact h)).toNat := by
  have h1 := bN_get s i (by rw [bN_len] at h; exact h)
  rw [List.getElem?_eq_getElem h] at h1
  exact Option.some.inj h1
theorem ByR.new (W : World) (s : ByteArray) (cap : Nat) : ByR (W.alloc (.cells (bytesRow s cap) 5 ((bytesRow s cap).size, (bytesRow s cap).size + 1))).drew W.heap.size (bN s) := by
  refine ⟨by simp, fun i hi => ?_⟩
  have hi' : i < s.data.size := by rw [bN_len] at hi; exact hi
  have hbs : s.data.size ≤ (bytesRow s cap).size := by unfold bytesRow; simp
  constructor
  · show (W.alloc _).cell? _ = _
    rw [World.cell?_alloc_mark, bytesRow_at s cap i hi', bN_at s i hi]
  · show (W.alloc _).frozen? _ = _
    rw [World.frozen?_alloc_mark]
    simp only [Bool.and_eq_false_iff, decide_eq_false_iff_not]
    omega
theorem ByR.below {W W' : World} {g : Nat} {l : List Nat} (h : ByR W g l) (hb : Below W.heap.size W W') : ByR W' g l :=
  ⟨Nat.lt_of_lt_of_le h.1 hb.size, fun i hi => ⟨(hb.cell (p := ⟨g, i, none⟩) h.1).trans (h.2 i hi).1, (World.frozen?_of_block (hb.block g h.1)).trans (h.2 i hi).2⟩⟩
theorem ByR.same {W W' : World} {g : Nat} {l : List Nat} (h : ByR W g l) (hk : W'.heap[g]? = W.heap[g]?) : ByR W' g l := by
  have hlt : g < W'.heap.size := by
    have h1 : W'.heap[g]? = some (W.heap[g]'h.1) := hk.trans (Array.getElem?_eq_getElem h.1)
    exact (Array.getElem?_eq_some_iff.1 h1).1
  exact ⟨hlt, fun i hi => ⟨(World.cell?_of_block (a := ⟨g, i, none⟩) hk).trans (h.2 i hi).1, (World.frozen?_of_block (a := ⟨g, i, none⟩) hk).trans (h.2 i hi).2⟩⟩
theorem ByR.set {W : World} {g : Nat} {l : List Nat} (h : ByR W g l) {p : Nat} (hp : p < l.length) (z : Nat) : ByR (W.setCell ⟨g, p, none⟩ (.int .u8 (z : Int))) g (l.set p z) := by
  have hsz : (W.setCell ⟨g, p, none⟩ (.int .u8 (z : Int))).heap.size = W.heap.size := by simp
  refine ⟨by rw [hsz]; exact h.1, fun i hi => ?_⟩
  have hi' : i < l.length := by rw [List.length_set] at hi; exact hi
  constructor
  · by_cases e : i = p
    · subst e
      rw [World.cell?_setCell_same' _ _ _ (by rw [(h.2 i hi').1]; rfl), List.getElem_set_self]
    · rw [World.cell?_setCell_other _ _ _ _ (fun h => e (Addr.mk.inj h).2.1.symm), (h.2 i hi').1, List.getElem_set_ne (fun h => e h.symm)]
  · have := (h.2 i hi').2
    simpa using this
theorem ByR.slr {W : World} {g : Nat} {l : List Nat} (h : ByR W g l) : SlR W W.heap.size 1 (some ⟨g, 0, none⟩) l.length (bV l) := by
  refine ⟨by unfold bV; simp, fun _ => ⟨g, 0, rfl, h.1, fun j u hj => ?_⟩⟩
  unfold bV at hj
  rw [List.getElem?_map] at hj
  obtain ⟨b, hb, rfl⟩ := Option.map_eq_some_iff.1 hj
  obtain ⟨hjl, rfl⟩ := List.getElem?_eq_some_iff.1 hb
  rw [Nat.zero_add]
  exact (h.2 j hjl).1
theorem Tryz.infoStr : (Tryz.prog.info? 9).map (fun i => (i.zero, i.size, i.bytes)) = some (some (.string ⟨#[]⟩), 1, 16) := by kernel_rfl
def sV (l : List ByteArray) : List Value := l.map Value.string
theorem oneS (l : List ByteArray) (u : Value) (h : u ∈ sV l) : u.oneCell' = true := by
  obtain ⟨b, _, rfl⟩ := List.mem_map.1 h
  rfl
theorem own_lit (W : World) (s : ByteArray) : (W.alloc (.cells #[.string s] 9)).ownsRow W.heap.size 9 1 (.slice (some ⟨W.heap.size, 0, none⟩) 1 1) 1 (sV [s]) :=
  ⟨rfl, .inr ⟨W.heap.size, 1, #[.string s], rfl, Nat.le_refl _, World.alloc_heap_new W _, Nat.le_refl _, by unfold maxLen; omega, rfl, rfl⟩⟩
end Go.Proofs.YtcfbgelhggapjaaGreatDoor
