/- A region that draws its order: first operations that only read or whose calls leave what stood as it was, then a tail that waits for all of them: one walk in the order of the text. -/
import Derived.Test.YtncdombfhcfobaaRg
import Derived.StillTail
namespace Go.Proofs.Ytncdombfhcfobaa
open Go.RowKit
section
variable {P : Program} {ops : Array Oper} {C : World → Prop} {n : Nat} {L : Array Bool → Act → Prop}
/-- f operations of the head, in whatever order; then L -/
def HeadQ (P : Program) (ops : Array Oper) (C : World → Prop) (n : Nat) (L : Array Bool → Act → Prop) : Nat → Array Bool → Act → Prop
  | 0, s, a => L s a
  | f + 1, s, a => Region.ready .any ops s ≠ [] ∧ ∀ i ∈ Region.ready .any ops s, i < n ∧ qOp P ops C i (HeadQ P ops C n L f (s.setIfInBounds i true)) a
theorem HeadQ.any {g : Nat} {Q : Exit → Act → World → Prop} (hL : ∀ s a, L s a → ∀ w, C w → wpAny P .any ops Q g s a w) :
    ∀ (f : Nat) (s : Array Bool) (a : Act), HeadQ P ops C n L f s a → ∀ w, C w → wpAny P .any ops Q (f + g) s a w
  | 0, s, a, h, w, hw => by simpa using hL s a h w hw
  | f + 1, s, a, h, w, hw => by
    have e : f + 1 + g = f + g + 1 := by omega
    rw [e]
    refine ⟨fun h0 => absurd h0 h.1, fun i hi => ?_⟩
    exact wpOp_of_qOp hw (fun a' w' hw' ha' => HeadQ.any hL f _ a' ha' w' hw') (h.2 i hi).2
theorem HeadQ.first {i : Nat} {o : Oper} {v : Value} (ho : ops[i]? = some o) (hsel : Region.noSelect ops = true) (hs : Region.sinkB .any ops n = true) (hc : Region.chainB .any ops n = true) (hn : n < ops.size) (hin : i < n)
    (hend : ∀ s a, L s a → ∀ j ∈ Region.ready .any ops s, n ≤ j) : ∀ (f : Nat) (s : Array Bool) (a : Act), HeadInv .any ops n s →
      (∀ j oj, ops[j]? = some oj → j ≠ i → s.getD j true = false → (∀ e ∈ oj.after, Region.binds .any e = true → e.on ≠ i) → o.apart ops oj = true) →
      i ∈ Region.ready .any ops s → YieldsIn P ops C o v a → HeadQ P ops C n L f (s.setIfInBounds i true) (a.put o.dst v) → HeadQ P ops C n L (f + 1) s a := by
  intro f
  induction f with
  | zero =>
    intro s a inv _ hr hy H
    refine ⟨fun h => (by rw [h] at hr; cases hr), fun j hj => ?_⟩
    have hun := (mem_ready.1 hr).1
    have hjn : j < n := Nat.lt_of_not_le fun h => absurd hj (tail_waits hs hc hn inv _ i rfl hin hun j h)
    by_cases e : j = i
    · rw [e]
      exact ⟨hin, hy.qOp ho H⟩
    · have := hend _ _ H j (ready_mono hj e)
      omega
  | succ f ih =>
    intro s a inv hap hr hy H
    refine ⟨fun h => (by rw [h] at hr; cases hr), fun j hj => ?_⟩
    have hun := (mem_ready.1 hr).1
    have hjn : j < n := Nat.lt_of_not_le fun h => absurd hj (tail_waits hs hc hn inv _ i rfl hin hun j h)
    by_cases e : j = i
    · rw [e]
      exact ⟨hin, hy.qOp ho H⟩
    · refine ⟨hjn, ?_⟩
      have H1 := (H.2 j (ready_mono hj e)).2
      obtain ⟨hju, oj, hoj, hall⟩ := mem_ready.1 hj
      have hni : ∀ x ∈ oj.after, Region.binds .any x = true → x.on ≠ i := by
        intro x hx hb hxi
        have h1 := hall x hx hb
        rw [hxi, getD_both hun] at h1
        cases h1
      have hsl := Region.noSelect_spec hsel
      have H2 := qOp_put hoj (hap j oj hoj e hju hni) (fun cs b => hsl i o cs b ho) (fun cs b => hsl j oj cs b hoj) hy H1
      refine qOp_mono (fun a' h' => ?_) H2
      refine ih (s.setIfInBounds j true) a' (inv.set hj hjn) (fun k ok hk hki hku hkn => ?_) (ready_mono hr (fun h => e h.symm)) h'.1 ?_
      · refine hap k ok hk hki ?_ hkn
        by_cases hjk : j = k
        · rw [← hjk]; exact hju
        · rwa [getD_set_ne true hjk] at hku
      · rw [Array.setIfInBounds_comm _ _ e]
        exact h'.2
theorem HeadQ.lex {g : Nat} {R : Act → Prop} (hsel : Region.noSelect ops = true) (hs : Region.sinkB .any ops n = true) (hc : Region.chainB .any ops n = true) (hn : n < ops.size) :
    ∀ (l : List Oper) (k : Nat) (s : Array Bool) (a : Act), (∀ j, j < l.length → l[j]? = ops[k + j]?) → k + l.length = n → HeadInv .any ops n s → Region.lexHead .any ops g l.length k s = true → wpQuiet P ops C R l a →
      HeadQ P ops C n (fun s' a' => Region.seqB .any ops g n s' = true ∧ R a') l.length s a
  | [], k, s, a, _, hk, _, hB, h => by
    have e : k = n := by simpa using hk
    rw [← e]
    exact ⟨by simpa [Region.lexHead] using hB, h⟩
  | o :: l, k, s, a, hl, hk, inv, hB, h => by
    have ho : ops[k]? = some o := by simpa using (hl 0 (by simp)).symm
    rw [List.length_cons] at hB hk ⊢
    rw [Region.lexHead, Bool.and_eq_true, Bool.and_eq_true] at hB
    have hr : k ∈ Region.ready .any ops s := by simpa using hB.1.1
    have hq : qOp P ops C k (wpQuiet P ops C R l) a := by
      unfold qOp
      simp only [ho]
      exact h
    obtain ⟨v, hy, hK⟩ := yieldsIn_of_qOp ho hq
    refine HeadQ.first ho hsel hs hc hn (by omega) (fun s' a' hL => seqB_ready hL.1) l.length s a inv (Region.free_spec ho hB.1.2) hr hy ?_
    refine HeadQ.lex hsel hs hc hn l (k + 1) _ _ (fun j hj => ?_) (by omega) (inv.set hr (by omega)) hB.2 hK
    have := hl (j + 1) (by simp; omega)
    rw [List.getElem?_cons_succ] at this
    rw [this]
    congr 1
    omega
theorem wp_region_bt (n : Nat) (w0 : World) {id : Nat} {Q : Exit → Act → World → Prop} {a : Act} {w : World} {l : List Oper} (hw : Below w0.heap.size w0 w) (hm : P.follows .mixedOrders = true) (hB : Region.lexTailB .any l.toArray n = true)
    (h : wpQuiet P l.toArray (fun w' => ∃ x : BW w0, w' = x.val) (fun a' => ∀ w', Below w0.heap.size w0 w' → wpList P l.toArray Q (l.drop n) a' w') (l.take n) a) : (Code.region id l.toArray true).wp P Q a w := by
  simp only [Region.lexTailB, Bool.and_eq_true, decide_eq_true_eq] at hB
  obtain ⟨⟨⟨⟨hsel, hn⟩, hs⟩, hc⟩, hlex⟩ := hB
  have hnl : n < l.length := by simpa using hn
  have hlen : (l.take n).length = n := by rw [List.length_take]; omega
  have hdl : (l.drop n).length = l.toArray.size - n := by simp
  have inv : HeadInv .any l.toArray n (Array.replicate l.toArray.size false) := by
    refine ⟨by simp, fun j oj _ hl => ?_, fun t _ ht => getD_in (by simpa using ht) (getD_replicate_false _ _)⟩
    rw [getD_replicate_false] at hl
    cases hl
  have H := HeadQ.lex (g := l.toArray.size - n) hsel hs hc hn (l.take n) 0 _ a (fun j hj => by
    rw [hlen] at hj
    simp [hj]) (by simpa using hlen) inv (by rw [hlen]; exact hlex) h
  refine wp_region_any hm ?_
  have key := HeadQ.any (Q := Q) (g := l.toArray.size - n) (fun s a' hL w' hw' => by
    obtain ⟨x, rfl⟩ := hw'
    have := wpAny_of_seq (md := .any) (Q' := Q) (l.drop n) n s a' x.val (fun j => by simp [List.getElem?_drop]) (by rw [hdl]; exact hL.1) (hL.2 x.val x.ok)
    rwa [hdl] at this) _ _ _ H w.drew ⟨⟨w.drew, bdrew hw⟩, rfl⟩
  rw [hlen, show n + (l.toArray.size - n) = l.toArray.size from by omega] at key
  exact key
end
end Go.Proofs.Ytncdombfhcfobaa
