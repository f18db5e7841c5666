/- Contracts: slices.Clone at items, copied. -/
import Derived.Test.YtncdombfhcfobaaM14
namespace Go.Proofs.Ytncdombfhcfobaa
open Go.RowKit
theorem c_cloneItem (A : Option Addr) (n c : Nat) (l : List It) (w : World) (hn : n ≤ 1000000) (hr : SlR w w.heap.size 6 A n (l.flatMap cI)) :
    Calls Try.prog 61 #[.slice A n c] w fun e w' => ∃ v, e = .returned v ∧ w'.ownsRow w.heap.size 36 6 v n (l.flatMap cI) ∧ Below w.heap.size w w' := by
  obtain ⟨i0, hi, hz0, hz1, hz2⟩ := info_parts Try.infoItem
  cases A with
  | none =>
    have h0 : n = 0 := by
      rcases Nat.eq_zero_or_pos n with h | h
      · exact h
      · obtain ⟨_, _, he, _⟩ := hr.2 h; cases he
    subst h0
    have hnil := hr.zero rfl
    rw [hnil]
    clear hnil hr
    have hq : ∀ w, (binOp .eql 24 (.slice none 0 c) (.slice none 0 0)).run Try.prog w = .ok (.bool true) w := fun w => Lib.run_eql_slice_nil w _ _ none 0 c 0 0 Try.underlying24
    go_enter Try.func61, Try.ntmps61
    go_wp2
    go_ret
    exact ⟨_, rfl, World.ownsRow_nil _ _ _ _, Below.refl _ _⟩
  | some a =>
    have hown : (w.alloc (.cells #[] 36)).ownsRow w.heap.size 36 6 (.slice (some ⟨w.heap.size, 0, none⟩) 0 0) 0 [] :=
      ⟨by simp, .inr ⟨w.heap.size, 0, #[], rfl, Nat.le_refl _, heap_alloc_new w (.cells #[] 36), Nat.le_refl _, Nat.zero_le _, by simp, by simp⟩⟩
    have hr1 := hr.to' (balloc (Below.refl w.heap.size w) (.cells #[] 36))
    clear hr
    have hq : ∀ w, (binOp .eql 24 (.slice (some a) n c) (.slice none 0 0)).run Try.prog w = .ok (.bool false) w := fun w => Lib.run_eql_slice_nil w _ _ (some a) n c 0 0 Try.underlying24
    go_enter Try.func61, Try.ntmps61
    go_wp2_with (at_builtin; refine wpList_append_sl (size := 6) rfl _ _ 24 rfl w.heap.size 36 i0 zV 56 Try.underlying24 hi hz0 hz1 hz2 rfl (by decide) _ 0 [] rfl hown n c (l.flatMap cI) rfl hr1 (Below.refl _ _) (fun u hu => oneI l u hu) (by unfold maxLen; omega) (by omega) (by simp) ?_; intro v6 w6 hown6 hgrow6 hor6)
    go_ret
    rw [Nat.zero_add, List.nil_append] at hown6
    exact ⟨_, rfl, hown6, bgrown (balloc (Below.refl _ _) _) hgrow6 (fun k e => by cases e; exact Nat.le_refl _)⟩
theorem own_set {W : World} {b : Nat} {e : TypeId} {k n : Nat} {v : Value} {xs : List Value} (h : W.ownsRow b e k v n xs) (p : Addr) (hp : p.block < b) (u : Value) : (W.setCell p u).ownsRow b e k v n xs := by
  refine ⟨h.1, ?_⟩
  rcases h.2 with h | ⟨g, c', cur, q1, q2, q3, q4⟩
  · exact .inl h
  · exact .inr ⟨g, c', cur, q1, q2, (Below.heap_setCell W p u g (by omega)).trans q3, q4⟩
/-- a copy of a module: a row of its own -/
def CopiedPost (r : MR) (l : List It) (w : World) (e : Ending) (w' : World) : Prop :=
  ∃ q : MR, e = .returned (mrV q) ∧ q.id = r.id ∧ w'.ownsRow 0 36 6 (.slice q.a q.n q.c) q.n (l.flatMap cI) ∧ Below w.heap.size w w'
set_option maxHeartbeats 1000000 in
theorem c_copied (r : MR) (l : List It) (w : World) (hn : r.n ≤ 1000000) (hr : SlR w w.heap.size 6 r.a r.n (l.flatMap cI)) :
    Calls Try.prog 39 #[mrV r] w (CopiedPost r l w) := by
  have hb0 := balloc (balloc (Below.refl w.heap.size w) (.cells #[.int .i64 r.id, .slice r.a r.n r.c] 27)) (.cells #[.int .i64 0, .slice none 0 0] 27)
  have gM : Blk ((w.alloc (.cells #[.int .i64 r.id, .slice r.a r.n r.c] 27)).alloc (.cells #[.int .i64 0, .slice none 0 0] 27)) w.heap.size 27 (cM r) := (Blk.new w 27 (cM r)).alloc (.cells #[.int .i64 0, .slice none 0 0] 27)
  have gZ := Blk.new (w.alloc (.cells #[.int .i64 r.id, .slice r.a r.n r.c] 27)) 27 [.int .i64 0, .slice none 0 0]
  rw [show (w.alloc (.cells #[.int .i64 r.id, .slice r.a r.n r.c] 27)).heap.size = w.heap.size + 1 from by simp] at gZ
  have hr0 := hr.to' hb0
  unfold mrV
  go_enter Try.func39, Try.ntmps39
  go_wp2_with fail
  generalize hw0 : (w.alloc (.cells #[.int .i64 r.id, .slice r.a r.n r.c] 27)).alloc (.cells #[.int .i64 0, .slice none 0 0] 27) = w0 at *
  have hS : ∀ W, Below (w.heap.size + 1) w0 W → (W.cell? ⟨w.heap.size, 0, none⟩ = some (.int .i64 r.id) ∧ W.cell? ⟨w.heap.size, 1, none⟩ = some (.slice r.a r.n r.c)) ∧ Below (w.heap.size + 1) w0 W := fun W h =>
    ⟨(gM.below h (by omega)).two, h⟩
  have HS := hide hS
  have hzl := gZ.lt
  have HZ := hide gZ
  clear hS gM gZ
  go_region_held3 (fun W => (W.cell? ⟨w.heap.size, 0, none⟩ = some (.int .i64 r.id) ∧ W.cell? ⟨w.heap.size, 1, none⟩ = some (.slice r.a r.n r.c)) ∧ Below (w.heap.size + 1) w0 W)
    (first | exact HS.out _ (by assumption) | exact HS.out _ (Below.refl _ _).drew | (go_split_ands; first | exact HS.out _ (by assumption) | exact HS.out _ (((Below.refl _ _).drew.trans (by assumption)).setCell (Nat.le_refl _) _ |>.setCell (Nat.le_refl _) _) | exact HS.out _ ((Below.trans (by assumption) (Below.mono (by assumption) (by omega)))) | exact HS.out _ (((by assumption : Below (w.heap.size + 1) w0 _).setCell (Nat.le_refl _) _).setCell (Nat.le_refl _) _)))
    ((go_at_call 61; refine (c_cloneItem r.a r.n r.c l _ hn (hr0.to' (bdrew (Below.refl _ _)))).mono ?_; rintro e w1 ⟨v, rfl, hown, hb1⟩; obtain ⟨A', c', rfl, hc1, hc2, hs⟩ := SlR.of_own hown; have hown' := hown; have hb1' : Below w0.heap.size w0 w1 := bthen (bdrew (Below.refl _ _)) hb1; have hb1'' : Below (w.heap.size + 1) w0 w1 := hb1'.mono (by omega); obtain ⟨z0, z1, z2, z3⟩ := (HZ.out.below hb1' HZ.out.lt).all2))
  all_goals
    have HR := hide (And.intro hown' (And.intro hb1' (And.intro hc1 hc2)))
    have hw1l : w.heap.size + 1 < w1.heap.size := by have := hb1'.size; omega
    clear hs hb1' hown hown'
    go_wp2_with fail
    refine bodyPost_ret (v := mrV ⟨r.id, A', r.n, c'⟩) (by simp [results, Try.results39, go_sem, z0, z1]) rfl ?_
    obtain ⟨hown, hb1', _, _⟩ := HR.out
    refine ⟨⟨r.id, A', r.n, c'⟩, rfl, rfl, ?_, ?_⟩
    · exact own_base (own_set (own_set hown ⟨w.heap.size + 1, 0, none⟩ hzl (.int .i64 r.id)) ⟨w.heap.size + 1, 1, none⟩ hzl (.slice A' r.n c')) (Nat.zero_le _)
    · exact (hb0.trans (hb1'.mono hb0.size)).setCell (by simp) _ |>.setCell (by simp) _
end Go.Proofs.Ytncdombfhcfobaa
