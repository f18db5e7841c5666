/- Equality of stamps, skews, spells; of lists of them. -/
import Derived.Test.YtenhghkiapkejaaW3
namespace Go.Proofs.Ytenhghkiapkejaa
open Go.RowKit

theorem eq24 (w : World) (a p n b q m : Int) : (Op.equalIn 10000 24 (.agg #[.int .i64 a, .int .i64 p, .int .i64 n]) (.agg #[.int .i64 b, .int .i64 q, .int .i64 m])).run Try.prog w = .ok (decide (a = b ∧ p = q ∧ n = m)) w := by
  rw [run_equalIn_struct w 9999 24 _ _ (by kernel_rfl) (by kernel_rfl)]
  simp only [Program.fieldsOf, Try.underlying24]
  simp [go_sem, Op.eqFields, Try.underlying3]
  by_cases h1 : a = b <;> by_cases h2 : p = q <;> by_cases h3 : n = m <;> simp [h1, h2, h3, go_sem]
theorem neq24 (w : World) (a p n b q m : Int) : (binOp .neq 24 (.agg #[.int .i64 a, .int .i64 p, .int .i64 n]) (.agg #[.int .i64 b, .int .i64 q, .int .i64 m])).run Try.prog w = .ok (.bool (!decide (a = b ∧ p = q ∧ n = m))) w := by
  simp only [binOp]
  simp [Op.equal, Op.maxDepth, eq24]
theorem eql24 (w : World) (a p n b q m : Int) : (binOp .eql 24 (.agg #[.int .i64 a, .int .i64 p, .int .i64 n]) (.agg #[.int .i64 b, .int .i64 q, .int .i64 m])).run Try.prog w = .ok (.bool (decide (a = b ∧ p = q ∧ n = m))) w := by
  simp only [binOp]
  simp [Op.equal, Op.maxDepth, eq24]
theorem eq41 (w : World) (a p n b q m : Int) : (Op.equalIn 10000 41 (.agg #[.int .i64 a, .int .i64 p, .int .i64 n]) (.agg #[.int .i64 b, .int .i64 q, .int .i64 m])).run Try.prog w = .ok (decide (a = b ∧ p = q ∧ n = m)) w := by
  rw [run_equalIn_struct w 9999 41 _ _ (by kernel_rfl) (by kernel_rfl)]
  simp only [Program.fieldsOf, Try.underlying41]
  simp [go_sem, Op.eqFields, Try.underlying3]
  by_cases h1 : a = b <;> by_cases h2 : p = q <;> by_cases h3 : n = m <;> simp [h1, h2, h3, go_sem]
theorem neq41 (w : World) (a p n b q m : Int) : (binOp .neq 41 (.agg #[.int .i64 a, .int .i64 p, .int .i64 n]) (.agg #[.int .i64 b, .int .i64 q, .int .i64 m])).run Try.prog w = .ok (.bool (!decide (a = b ∧ p = q ∧ n = m))) w := by
  simp only [binOp]
  simp [Op.equal, Op.maxDepth, eq41]
theorem eql41 (w : World) (a p n b q m : Int) : (binOp .eql 41 (.agg #[.int .i64 a, .int .i64 p, .int .i64 n]) (.agg #[.int .i64 b, .int .i64 q, .int .i64 m])).run Try.prog w = .ok (.bool (decide (a = b ∧ p = q ∧ n = m))) w := by
  simp only [binOp]
  simp [Op.equal, Op.maxDepth, eq41]
theorem eq56 (w : World) (a p b q : Int) : (Op.equalIn 10000 56 (.agg #[.int .i64 a, .int .i64 p]) (.agg #[.int .i64 b, .int .i64 q])).run Try.prog w = .ok (decide (a = b ∧ p = q)) w := by
  rw [run_equalIn_struct w 9999 56 _ _ (by kernel_rfl) (by kernel_rfl)]
  simp only [Program.fieldsOf, Try.underlying56]
  simp [go_sem, Op.eqFields, Try.underlying3]
  by_cases h1 : a = b <;> by_cases h2 : p = q <;> simp [h1, h2, go_sem]
theorem eql56 (w : World) (a p b q : Int) : (binOp .eql 56 (.agg #[.int .i64 a, .int .i64 p]) (.agg #[.int .i64 b, .int .i64 q])).run Try.prog w = .ok (.bool (decide (a = b ∧ p = q))) w := by
  simp only [binOp]
  simp [Op.equal, Op.maxDepth, eq56]
theorem neq56 (w : World) (a p b q : Int) : (binOp .neq 56 (.agg #[.int .i64 a, .int .i64 p]) (.agg #[.int .i64 b, .int .i64 q])).run Try.prog w = .ok (.bool (!decide (a = b ∧ p = q))) w := by
  simp only [binOp]
  simp [Op.equal, Op.maxDepth, eq56]

set_option maxHeartbeats 400000 in
theorem f12 (A B : Option Addr) (l m : List I3) (c d : Nat) (w : World) (hn : l.length ≤ c) (hc : c ≤ 9223372036854775807) (hm : m.length ≤ d)
    (hr : SlR w w.heap.size 3 A l.length (l.flatMap c3)) (hs : SlR w w.heap.size 3 B m.length (m.flatMap c3)) :
    Calls Try.prog 12 #[.slice A l.length c, .slice B m.length d] w fun e w' => e = .returned (.bool (decide (l = m))) ∧ Below w.heap.size w w' := by
  have hq := neq24
  by_cases hlen : l.length = m.length
  · have hbool : ((l.length : Int) != (m.length : Int)) = false := by simp [hlen]
    have hle : m.length ≤ l.length := by omega
    have hle' : l.length ≤ m.length := by omega
    have HL := hide hlen
    clear hlen
    go_enter Try.func12, Try.ntmps12
    go_wp2
    go_loopw [5] (fun i wr => ∃ (k : Nat), k ≤ l.length ∧ i = .int .i64 k ∧ l.take k = m.take k ∧ Below w.heap.size w wr) (fun i _ => l.length - (intOf i).toNat)
    case atStart => exact ⟨0, Nat.zero_le _, rfl, rfl, Below.refl _ _⟩
    case round =>
      obtain ⟨k, hk, rfl, htk, hb⟩ := hrel
      by_cases hlt : k < l.length
      · have hlt' : k < m.length := by omega
        obtain ⟨b, off, rfl, hbb, hx0, hx1, hx2⟩ := hr.at3 hb hlt
        obtain ⟨b', off', rfl, hbb', hy0, hy1, hy2⟩ := hs.at3 hb hlt'
        have H := hide (And.intro htk (And.intro (List.take_succ_eq_append_getElem hlt) (List.take_succ_eq_append_getElem hlt')))
        have HE := hide (fun h : l = m => (by subst h; rfl : l[k] = m[k]'hlt'))
        clear hr hs htk
        generalize l[k] = s at *
        generalize m[k] = t at *
        obtain ⟨s0, s1, s2⟩ := s
        obtain ⟨t0, t1, t2⟩ := t
        simp only [] at hx0 hx1 hx2 hy0 hy1 hy2
        go_wp2_with fail
        go_quiet (fail)
        go_wp2_with fail
        · go_ret
          have h := HE.out
          have hne : ¬ (s0 = t0 ∧ s1 = t1 ∧ s2 = t2) := by (clear h; simp_all; try omega)
          refine ⟨ret_bool ?_, below_drewN hb _⟩
          rw [eq_comm, decide_eq_false_iff_not]
          intro hl
          have := h hl
          simp only [Prod.mk.injEq] at this
          omega
        · go_roundw
          case rel =>
            obtain ⟨h1, h2, h3⟩ := H.out
            have heq : s0 = t0 ∧ s1 = t1 ∧ s2 = t2 := by simp_all
            obtain ⟨rfl, rfl, rfl⟩ := heq
            exact ⟨k + 1, by omega, by go_num, by rw [h2, h3, h1], below_drewN hb _⟩
          case measure => simp [intOf]; omega
      · have H := hide htk
        clear htk
        go_wp2
        go_ret
        have h := H.out
        rw [List.take_of_length_le (by omega), List.take_of_length_le (by omega)] at h
        exact ⟨ret_bool (by rw [decide_eq_true h]), hb⟩
  · have hbool : ((l.length : Int) != (m.length : Int)) = true := by simp; omega
    go_enter Try.func12, Try.ntmps12
    go_wp2
    go_ret
    exact ⟨ret_bool (by rw [eq_comm, decide_eq_false_iff_not]; rintro rfl; exact hlen rfl), Below.refl _ _⟩

set_option maxHeartbeats 400000 in
theorem f26 (A B : Option Addr) (l m : List I3) (c d : Nat) (w : World) (hn : l.length ≤ c) (hc : c ≤ 9223372036854775807) (hm : m.length ≤ d)
    (hr : SlR w w.heap.size 3 A l.length (l.flatMap c3)) (hs : SlR w w.heap.size 3 B m.length (m.flatMap c3)) :
    Calls Try.prog 26 #[.slice A l.length c, .slice B m.length d] w fun e w' => e = .returned (.bool (decide (l = m))) ∧ Below w.heap.size w w' := by
  have hq := neq41
  by_cases hlen : l.length = m.length
  · have hbool : ((l.length : Int) != (m.length : Int)) = false := by simp [hlen]
    have hle : m.length ≤ l.length := by omega
    have hle' : l.length ≤ m.length := by omega
    have HL := hide hlen
    clear hlen
    go_enter Try.func26, Try.ntmps26
    go_wp2
    go_loopw [5] (fun i wr => ∃ (k : Nat), k ≤ l.length ∧ i = .int .i64 k ∧ l.take k = m.take k ∧ Below w.heap.size w wr) (fun i _ => l.length - (intOf i).toNat)
    case atStart => exact ⟨0, Nat.zero_le _, rfl, rfl, Below.refl _ _⟩
    case round =>
      obtain ⟨k, hk, rfl, htk, hb⟩ := hrel
      by_cases hlt : k < l.length
      · have hlt' : k < m.length := by omega
        obtain ⟨b, off, rfl, hbb, hx0, hx1, hx2⟩ := hr.at3 hb hlt
        obtain ⟨b', off', rfl, hbb', hy0, hy1, hy2⟩ := hs.at3 hb hlt'
        have H := hide (And.intro htk (And.intro (List.take_succ_eq_append_getElem hlt) (List.take_succ_eq_append_getElem hlt')))
        have HE := hide (fun h : l = m => (by subst h; rfl : l[k] = m[k]'hlt'))
        clear hr hs htk
        generalize l[k] = s at *
        generalize m[k] = t at *
        obtain ⟨s0, s1, s2⟩ := s
        obtain ⟨t0, t1, t2⟩ := t
        simp only [] at hx0 hx1 hx2 hy0 hy1 hy2
        go_wp2_with fail
        go_quiet (fail)
        go_wp2_with fail
        · go_ret
          have h := HE.out
          have hne : ¬ (s0 = t0 ∧ s1 = t1 ∧ s2 = t2) := by (clear h; simp_all; try omega)
          refine ⟨ret_bool ?_, below_drewN hb _⟩
          rw [eq_comm, decide_eq_false_iff_not]
          intro hl
          have := h hl
          simp only [Prod.mk.injEq] at this
          omega
        · go_roundw
          case rel =>
            obtain ⟨h1, h2, h3⟩ := H.out
            have heq : s0 = t0 ∧ s1 = t1 ∧ s2 = t2 := by simp_all
            obtain ⟨rfl, rfl, rfl⟩ := heq
            exact ⟨k + 1, by omega, by go_num, by rw [h2, h3, h1], below_drewN hb _⟩
          case measure => simp [intOf]; omega
      · have H := hide htk
        clear htk
        go_wp2
        go_ret
        have h := H.out
        rw [List.take_of_length_le (by omega), List.take_of_length_le (by omega)] at h
        exact ⟨ret_bool (by rw [decide_eq_true h]), hb⟩
  · have hbool : ((l.length : Int) != (m.length : Int)) = true := by simp; omega
    go_enter Try.func26, Try.ntmps26
    go_wp2
    go_ret
    exact ⟨ret_bool (by rw [eq_comm, decide_eq_false_iff_not]; rintro rfl; exact hlen rfl), Below.refl _ _⟩

end Go.Proofs.Ytenhghkiapkejaa
