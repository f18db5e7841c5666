/- Contracts: equality of items, of lists of items and of ints, of modules; slices.Contains at ints. -/
import Derived.Test.YtncdombfhcfobaaGreatM5
import Derived.BigQuiet
import Derived.Deep.QuietTactic
namespace Go.Proofs.YtncdombfhcfobaaGreat
open Go.RowKit Go.Shelf
theorem text_iff (a b : ByteArray) : a.toList = b.toList ↔ a = b := by
  rw [ByteArray.toList_eq, ByteArray.toList_eq]
  constructor
  · intro h
    obtain ⟨⟨l⟩⟩ := a
    obtain ⟨⟨k⟩⟩ := b
    have h' : l = k := h
    rw [h']
  · rintro rfl; rfl
theorem eqIt (w : World) (s t : It) : (Op.equalIn 10000 27 (itV s) (itV t)).run Tryz.prog w = .ok (decide (s = t)) w := by
  rw [run_equalIn_struct w 9999 27 _ _ (by kernel_rfl) (by kernel_rfl)]
  simp only [Program.fieldsOf, Tryz.underlying27]
  simp [go_sem, Op.eqFields]
  simp only [text_iff, It.ext_iff' s t]
  by_cases h1 : s.id = t.id <;> by_cases h2 : s.kind = t.kind <;> by_cases h3 : s.x = t.x <;> by_cases h4 : s.y = t.y <;> by_cases h5 : s.text = t.text <;> by_cases h6 : s.mod = t.mod <;> simp [h1, h2, h3, h4, h5, h6]
theorem neqIt (w : World) (s t : It) : (binOp .neq 27 (itV s) (itV t)).run Tryz.prog w = .ok (.bool (!decide (s = t))) w := by
  simp only [binOp]
  have := eqIt w s t
  simp [Op.equal, Op.maxDepth] at this ⊢
  rw [this]; rfl
theorem eqlIt (w : World) (s t : It) : (binOp .eql 27 (itV s) (itV t)).run Tryz.prog w = .ok (.bool (decide (s = t))) w := by
  simp only [binOp]
  have := eqIt w s t
  simp [Op.equal, Op.maxDepth] at this ⊢
  rw [this]; rfl
set_option maxHeartbeats 800000 in
theorem c_eqItem (A : Option Addr) (n c : Nat) (l : List It) (B : Option Addr) (m d : Nat) (k : List It) (w : World) (hn : n ≤ 9223372036854775807) (hm : m ≤ 9223372036854775807) (hr : SlR w w.heap.size 6 A n (l.flatMap cI)) (hs : SlR w w.heap.size 6 B m (k.flatMap cI)) :
    Calls Tryz.prog 59 #[.slice A n c, .slice B m d] w fun e w' => e = .returned (.bool (decide (l = k))) ∧ Below w.heap.size w w' := by
  have hl := hr.lenI
  have hk := hs.lenI
  by_cases hlen : n = m
  · subst hlen
    have hb0 : ((n : Int) != (n : Int)) = false := by simp
    go_enter Tryz.func59, Tryz.ntmps59
    go_wp2
    go_loopw [5, 13] (fun _ i wr => ∃ j : Nat, j ≤ n ∧ i = .int .i64 j ∧ l.take j = k.take j ∧ Below w.heap.size w wr) (fun _ i _ => n - (intOf i).toNat)
    case atStart => exact ⟨0, Nat.zero_le _, rfl, rfl, Below.refl _ _⟩
    case round =>
      obtain ⟨j, hj, rfl, htk, hb⟩ := hrel
      by_cases hlt : j < n
      · have h1 : j < l.length := by omega
        have h2 : j < k.length := by omega
        obtain ⟨b, off, rfl, hbb, hx0, hx1, hx2, hx3, hx4, hx5⟩ := hr.atI hb h1
        obtain ⟨b', off', rfl, hbb', hy0, hy1, hy2, hy3, hy4, hy5⟩ := hs.atI hb h2
        have H := hide (And.intro htk (And.intro (List.take_succ_eq_append_getElem h1) (List.take_succ_eq_append_getElem h2)))
        have HE := hide (fun h : l = k => (by subst h; rfl : l[j] = k[j]'h2))
        have hji : (j : Int) < (n : Int) := by omega
        clear hr hs htk hl hk
        generalize l[j] = s at *
        generalize k[j] = t at *
        by_cases hst : s = t
        · have hd : decide (s = t) = true := by simpa using hst
          have HS := hide hst
          have hq : ∀ w, (binOp .neq 27 (itV s) (itV t)).run Tryz.prog w = .ok (.bool false) w := fun w => by rw [neqIt w s t, hd]; rfl
          simp only [itV] at hq
          clear hd hst
          go_wp2_with fail
          go_quiet (fail)
          go_wp2_with fail
          go_roundw
          case rel =>
            obtain ⟨h1, h2, h3⟩ := H.out
            exact ⟨j + 1, by omega, by go_num, by rw [h2, h3, h1, HS.out], below_drewN hb _⟩
          case measure => simp [intOf]; omega
        · have hd : decide (s = t) = false := by simpa using hst
          have HS := hide hst
          have hq : ∀ w, (binOp .neq 27 (itV s) (itV t)).run Tryz.prog w = .ok (.bool true) w := fun w => by rw [neqIt w s t, hd]; rfl
          simp only [itV] at hq
          clear hd hst
          go_wp2_with fail
          go_quiet (fail)
          go_wp2_with fail
          go_ret
          exact ⟨ret_bool (by rw [eq_comm, decide_eq_false_iff_not]; exact fun h => HS.out (HE.out h)), below_drewN hb _⟩
      · have H := hide htk
        have HL := hide (And.intro hl hk)
        clear htk hr hs hl hk
        go_wp2
        go_ret
        have h := H.out
        obtain ⟨hl, hk⟩ := HL.out
        rw [List.take_of_length_le (by omega), List.take_of_length_le (by omega)] at h
        exact ⟨ret_bool (by rw [decide_eq_true h]), hb⟩
  · have hb0 : ((n : Int) != (m : Int)) = true := by simp; omega
    have HL := hide (And.intro hl (And.intro hk hlen))
    clear hl hk hlen hr hs
    go_enter Tryz.func59, Tryz.ntmps59
    go_wp2
    go_ret
    exact ⟨ret_bool (by obtain ⟨hl, hk, hne⟩ := HL.out; rw [eq_comm, decide_eq_false_iff_not]; rintro rfl; omega), Below.refl _ _⟩
set_option maxHeartbeats 800000 in
theorem c_eqInt (A : Option Addr) (n c : Nat) (l : List Int) (B : Option Addr) (m d : Nat) (k : List Int) (w : World) (hn : n ≤ 9223372036854775807) (hm : m ≤ 9223372036854775807) (hr : SlR w w.heap.size 1 A n (l.flatMap cN)) (hs : SlR w w.heap.size 1 B m (k.flatMap cN)) :
    Calls Tryz.prog 60 #[.slice A n c, .slice B m d] w fun e w' => e = .returned (.bool (decide (l = k))) ∧ Below w.heap.size w w' := by
  have hl := hr.lenN
  have hk := hs.lenN
  by_cases hlen : n = m
  · subst hlen
    have hb0 : ((n : Int) != (n : Int)) = false := by simp
    go_enter Tryz.func60, Tryz.ntmps60
    go_wp2
    go_loopw [5, 13] (fun _ i wr => ∃ j : Nat, j ≤ n ∧ i = .int .i64 j ∧ l.take j = k.take j ∧ Below w.heap.size w wr) (fun _ i _ => n - (intOf i).toNat)
    case atStart => exact ⟨0, Nat.zero_le _, rfl, rfl, Below.refl _ _⟩
    case round =>
      obtain ⟨j, hj, rfl, htk, hb⟩ := hrel
      by_cases hlt : j < n
      · have h1 : j < l.length := by omega
        have h2 : j < k.length := by omega
        obtain ⟨b, off, rfl, hbb, hx0⟩ := hr.atN hb h1
        obtain ⟨b', off', rfl, hbb', hy0⟩ := hs.atN hb h2
        have H := hide (And.intro htk (And.intro (List.take_succ_eq_append_getElem h1) (List.take_succ_eq_append_getElem h2)))
        have HE := hide (fun h : l = k => (by subst h; rfl : l[j] = k[j]'h2))
        have hji : (j : Int) < (n : Int) := by omega
        clear hr hs htk hl hk
        generalize l[j] = s at *
        generalize k[j] = t at *
        by_cases hst : s = t
        · have hd : decide (s = t) = true := by simpa using hst
          have HS := hide hst
          have hq : (s != t) = false := by simp [hst]
          clear hd hst
          go_wp2_with fail
          go_quiet (fail)
          go_wp2_with fail
          go_roundw
          case rel =>
            obtain ⟨h1, h2, h3⟩ := H.out
            exact ⟨j + 1, by omega, by go_num, by rw [h2, h3, h1, HS.out], below_drewN hb _⟩
          case measure => simp [intOf]; omega
        · have hd : decide (s = t) = false := by simpa using hst
          have HS := hide hst
          have hq : (s != t) = true := by simpa using hst
          clear hd hst
          go_wp2_with fail
          go_quiet (fail)
          go_wp2_with fail
          go_ret
          exact ⟨ret_bool (by rw [eq_comm, decide_eq_false_iff_not]; exact fun h => HS.out (HE.out h)), below_drewN hb _⟩
      · have H := hide htk
        have HL := hide (And.intro hl hk)
        clear htk hr hs hl hk
        go_wp2
        go_ret
        have h := H.out
        obtain ⟨hl, hk⟩ := HL.out
        rw [List.take_of_length_le (by omega), List.take_of_length_le (by omega)] at h
        exact ⟨ret_bool (by rw [decide_eq_true h]), hb⟩
  · have hb0 : ((n : Int) != (m : Int)) = true := by simp; omega
    have HL := hide (And.intro hl (And.intro hk hlen))
    clear hl hk hlen hr hs
    go_enter Tryz.func60, Tryz.ntmps60
    go_wp2
    go_ret
    exact ⟨ret_bool (by obtain ⟨hl, hk, hne⟩ := HL.out; rw [eq_comm, decide_eq_false_iff_not]; rintro rfl; omega), Below.refl _ _⟩
set_option maxHeartbeats 800000 in
theorem c_rSameItems (A : Option Addr) (n c : Nat) (l : List It) (B : Option Addr) (m d : Nat) (k : List It) (w : World) (hn : n ≤ 9223372036854775807) (hm : m ≤ 9223372036854775807) (hr : SlR w w.heap.size 6 A n (l.flatMap cI)) (hs : SlR w w.heap.size 6 B m (k.flatMap cI)) :
    Calls Tryz.prog 23 #[.slice A n c, .slice B m d] w fun e w' => e = .returned (.bool (decide (l = k))) ∧ Below w.heap.size w w' := by
  have hl := hr.lenI
  have hk := hs.lenI
  by_cases hlen : n = m
  · subst hlen
    have hb0 : ((n : Int) != (n : Int)) = false := by simp
    go_enter Tryz.func23, Tryz.ntmps23
    go_wp2
    go_loopw [5] (fun i wr => ∃ j : Nat, j ≤ n ∧ i = .int .i64 j ∧ l.take j = k.take j ∧ Below w.heap.size w wr) (fun i _ => n - (intOf i).toNat)
    case atStart => exact ⟨0, Nat.zero_le _, rfl, rfl, Below.refl _ _⟩
    case round =>
      obtain ⟨j, hj, rfl, htk, hb⟩ := hrel
      by_cases hlt : j < n
      · have h1 : j < l.length := by omega
        have h2 : j < k.length := by omega
        obtain ⟨b, off, rfl, hbb, hx0, hx1, hx2, hx3, hx4, hx5⟩ := hr.atI hb h1
        obtain ⟨b', off', rfl, hbb', hy0, hy1, hy2, hy3, hy4, hy5⟩ := hs.atI hb h2
        have H := hide (And.intro htk (And.intro (List.take_succ_eq_append_getElem h1) (List.take_succ_eq_append_getElem h2)))
        have HE := hide (fun h : l = k => (by subst h; rfl : l[j] = k[j]'h2))
        have hji : (j : Int) < (n : Int) := by omega
        clear hr hs htk hl hk
        generalize l[j] = s at *
        generalize k[j] = t at *
        by_cases hst : s = t
        · have hd : decide (s = t) = true := by simpa using hst
          have HS := hide hst
          have hq : ∀ w, (binOp .neq 27 (itV s) (itV t)).run Tryz.prog w = .ok (.bool false) w := fun w => by rw [neqIt w s t, hd]; rfl
          simp only [itV] at hq
          clear hd hst
          go_wp2_with fail
          go_quiet (fail)
          go_wp2_with fail
          go_roundw
          case rel =>
            obtain ⟨h1, h2, h3⟩ := H.out
            exact ⟨j + 1, by omega, by go_num, by rw [h2, h3, h1, HS.out], below_drewN hb _⟩
          case measure => simp [intOf]; omega
        · have hd : decide (s = t) = false := by simpa using hst
          have HS := hide hst
          have hq : ∀ w, (binOp .neq 27 (itV s) (itV t)).run Tryz.prog w = .ok (.bool true) w := fun w => by rw [neqIt w s t, hd]; rfl
          simp only [itV] at hq
          clear hd hst
          go_wp2_with fail
          go_quiet (fail)
          go_wp2_with fail
          go_ret
          exact ⟨ret_bool (by rw [eq_comm, decide_eq_false_iff_not]; exact fun h => HS.out (HE.out h)), below_drewN hb _⟩
      · have H := hide htk
        have HL := hide (And.intro hl hk)
        clear htk hr hs hl hk
        go_wp2
        go_ret
        have h := H.out
        obtain ⟨hl, hk⟩ := HL.out
        rw [List.take_of_length_le (by omega), List.take_of_length_le (by omega)] at h
        exact ⟨ret_bool (by rw [decide_eq_true h]), hb⟩
  · have hb0 : ((n : Int) != (m : Int)) = true := by simp; omega
    have HL := hide (And.intro hl (And.intro hk hlen))
    clear hl hk hlen hr hs
    go_enter Tryz.func23, Tryz.ntmps23
    go_wp2
    go_ret
    exact ⟨ret_bool (by obtain ⟨hl, hk, hne⟩ := HL.out; rw [eq_comm, decide_eq_false_iff_not]; rintro rfl; omega), Below.refl _ _⟩
set_option maxHeartbeats 800000 in
theorem c_rInts (A : Option Addr) (n c : Nat) (l : List Int) (B : Option Addr) (m d : Nat) (k : List Int) (w : World) (hn : n ≤ 9223372036854775807) (hm : m ≤ 9223372036854775807) (hr : SlR w w.heap.size 1 A n (l.flatMap cN)) (hs : SlR w w.heap.size 1 B m (k.flatMap cN)) :
    Calls Tryz.prog 29 #[.slice A n c, .slice B m d] w fun e w' => e = .returned (.bool (decide (l = k))) ∧ Below w.heap.size w w' := by
  have hl := hr.lenN
  have hk := hs.lenN
  by_cases hlen : n = m
  · subst hlen
    have hb0 : ((n : Int) != (n : Int)) = false := by simp
    go_enter Tryz.func29, Tryz.ntmps29
    go_wp2
    go_loopw [5] (fun i wr => ∃ j : Nat, j ≤ n ∧ i = .int .i64 j ∧ l.take j = k.take j ∧ Below w.heap.size w wr) (fun i _ => n - (intOf i).toNat)
    case atStart => exact ⟨0, Nat.zero_le _, rfl, rfl, Below.refl _ _⟩
    case round =>
      obtain ⟨j, hj, rfl, htk, hb⟩ := hrel
      by_cases hlt : j < n
      · have h1 : j < l.length := by omega
        have h2 : j < k.length := by omega
        obtain ⟨b, off, rfl, hbb, hx0⟩ := hr.atN hb h1
        obtain ⟨b', off', rfl, hbb', hy0⟩ := hs.atN hb h2
        have H := hide (And.intro htk (And.intro (List.take_succ_eq_append_getElem h1) (List.take_succ_eq_append_getElem h2)))
        have HE := hide (fun h : l = k => (by subst h; rfl : l[j] = k[j]'h2))
        have hji : (j : Int) < (n : Int) := by omega
        clear hr hs htk hl hk
        generalize l[j] = s at *
        generalize k[j] = t at *
        by_cases hst : s = t
        · have hd : decide (s = t) = true := by simpa using hst
          have HS := hide hst
          have hq : (s != t) = false := by simp [hst]
          clear hd hst
          go_wp2_with fail
          go_quiet (fail)
          go_wp2_with fail
          go_roundw
          case rel =>
            obtain ⟨h1, h2, h3⟩ := H.out
            exact ⟨j + 1, by omega, by go_num, by rw [h2, h3, h1, HS.out], below_drewN hb _⟩
          case measure => simp [intOf]; omega
        · have hd : decide (s = t) = false := by simpa using hst
          have HS := hide hst
          have hq : (s != t) = true := by simpa using hst
          clear hd hst
          go_wp2_with fail
          go_quiet (fail)
          go_wp2_with fail
          go_ret
          exact ⟨ret_bool (by rw [eq_comm, decide_eq_false_iff_not]; exact fun h => HS.out (HE.out h)), below_drewN hb _⟩
      · have H := hide htk
        have HL := hide (And.intro hl hk)
        clear htk hr hs hl hk
        go_wp2
        go_ret
        have h := H.out
        obtain ⟨hl, hk⟩ := HL.out
        rw [List.take_of_length_le (by omega), List.take_of_length_le (by omega)] at h
        exact ⟨ret_bool (by rw [decide_eq_true h]), hb⟩
  · have hb0 : ((n : Int) != (m : Int)) = true := by simp; omega
    have HL := hide (And.intro hl (And.intro hk hlen))
    clear hl hk hlen hr hs
    go_enter Tryz.func29, Tryz.ntmps29
    go_wp2
    go_ret
    exact ⟨ret_bool (by obtain ⟨hl, hk, hne⟩ := HL.out; rw [eq_comm, decide_eq_false_iff_not]; rintro rfl; omega), Below.refl _ _⟩
end Go.Proofs.YtncdombfhcfobaaGreat
