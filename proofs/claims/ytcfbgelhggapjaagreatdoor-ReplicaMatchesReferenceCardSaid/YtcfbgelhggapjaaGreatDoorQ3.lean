/- Replica: the reference: listed, Before. -/
import Derived.Test.YtcfbgelhggapjaaGreatDoorQ2
import Derived.Deep.LoopGhost
import Derived.Test.YtcfbgelhggapjaaGreatDoorQ1
import Derived.BigRegion
import Derived.Deep.DeepCutAuto
namespace Go.Proofs.YtcfbgelhggapjaaGreatDoor
open Go.RowKit Go.Shelf
set_option maxHeartbeats 4000000 in
set_option maxRecDepth 100000 in
theorem c_rlisted (a b : Rc) (w : World) : Calls Tryz.prog 78 #[rcV a, rcV b] w fun e w' => e = .returned (.bool (lsB a b)) ∧ Below w.heap.size w w' := by
  obtain ⟨p, n, t, o, wh, k, tx⟩ := a
  obtain ⟨q, m, t2, o2, wh2, k2, tx2⟩ := b
  have hb := hide (balloc (balloc (Below.refl w.heap.size w) (.cells #[.int .i64 p, .int .i64 n, .int .i64 t, .int .i64 o, .int .i64 wh, .int .i64 k, .string tx] 49)) (.cells #[.int .i64 q, .int .i64 m, .int .i64 t2, .int .i64 o2, .int .i64 wh2, .int .i64 k2, .string tx2] 49))
  unfold rcV lsB
  dsimp only
  by_cases h1 : p < q
  · have H := hide (decide_eq_true h1)
    go_enter Tryz.func78, Tryz.ntmps78
    go_wp2_with fail
    go_ret
    exact ⟨ret_bool (by first | rfl | (rw [H.out]; rfl)), hb.out⟩
  · have H := hide (decide_eq_false h1)
    by_cases h2 : p = q
    · have H2 := hide (decide_eq_true h2)
      have d2 : (p == q) = true := by simp [h2]
      clear h2
      by_cases h3 : n < m
      · have H3 := hide (decide_eq_true h3)
        go_enter Tryz.func78, Tryz.ntmps78
        go_wp2_with fail
        go_ret
        exact ⟨ret_bool (by first | rfl | (rw [H.out, H2.out, H3.out]; rfl) | (rw [H.out, H2.out]; rfl)), hb.out⟩
      · have H3 := hide (decide_eq_false h3)
        go_enter Tryz.func78, Tryz.ntmps78
        go_wp2_with fail
        go_ret
        exact ⟨ret_bool (by first | rfl | (rw [H.out, H2.out, H3.out]; rfl) | (rw [H.out, H2.out]; rfl)), hb.out⟩
    · have H2 := hide (decide_eq_false h2)
      have d2 : (p == q) = false := by simp [h2]
      clear h2
      go_enter Tryz.func78, Tryz.ntmps78
      go_wp2_with fail
      go_ret
      exact ⟨ret_bool (by first | rfl | (rw [H.out, H2.out]; rfl)), hb.out⟩
set_option maxHeartbeats 4000000 in
set_option maxRecDepth 100000 in
theorem c_rBefore (a b : Rc) (w : World) : Calls Tryz.prog 39 #[rcV a, rcV b] w fun e w' => e = .returned (.bool (bfB a b)) ∧ Below w.heap.size w w' := by
  have hk := c_rlisted a b ((w.alloc (.cells (cR a).toArray 49)).alloc (.cells (cR b).toArray 49))
  obtain ⟨p, n, t, o, wh, k, tx⟩ := a
  obtain ⟨q, m, t2, o2, wh2, k2, tx2⟩ := b
  have hb := hide (balloc (balloc (Below.refl w.heap.size w) (.cells #[.int .i64 p, .int .i64 n, .int .i64 t, .int .i64 o, .int .i64 wh, .int .i64 k, .string tx] 49)) (.cells #[.int .i64 q, .int .i64 m, .int .i64 t2, .int .i64 o2, .int .i64 wh2, .int .i64 k2, .string tx2] 49))
  unfold bfB
  unfold rcV at hk ⊢
  unfold cR at hk
  dsimp only at hk ⊢
  generalize lsB ⟨p, n, t, o, wh, k, tx⟩ ⟨q, m, t2, o2, wh2, k2, tx2⟩ = L at *
  by_cases h1 : t = t2
  · have H := hide h1
    have d1 : (t != t2) = false := by simp [h1]
    clear h1
    go_enter Tryz.func39, Tryz.ntmps39
    go_wp2_with (refine hk.mono ?_; clear hk; rintro e w1 ⟨rfl, hb1⟩)
    go_ret
    exact ⟨ret_bool (by first | rfl | rw [if_pos H.out]), bthen hb.out hb1⟩
  · have H := hide h1
    have d1 : (t != t2) = true := by simp [h1]
    clear h1 hk
    go_enter Tryz.func39, Tryz.ntmps39
    go_wp2_with fail
    go_ret
    exact ⟨ret_bool (by first | rfl | rw [if_neg H.out]), hb.out⟩
end Go.Proofs.YtcfbgelhggapjaaGreatDoor
/- Replica: the reference's Find. -/
namespace Go.Proofs.YtcfbgelhggapjaaGreatDoor
open Go.RowKit Go.Shelf
theorem fdI_at {l : List Rc} {k : I2} {i : Nat} (hi : i < l.length) (hk : keyR l[i] = k) (hn : ∀ r ∈ l.take i, keyR r ≠ k) : fdI k l = i := by
  have : l.findIdx? (isK k) = some i := by
    rw [List.findIdx?_eq_some_iff_getElem]
    refine ⟨hi, by simp [isK, hk], fun j hj => ?_⟩
    have := hn l[j] (List.mem_take_iff_getElem.2 ⟨j, by omega, rfl⟩)
    simpa [isK] using this
  unfold fdI; rw [this]
theorem fdI_no {l : List Rc} {k : I2} (hn : ∀ r ∈ l, keyR r ≠ k) : fdI k l = -1 := by
  have : l.findIdx? (isK k) = none := by
    rw [List.findIdx?_eq_none_iff]
    intro r hr
    simpa [isK] using hn r hr
  unfold fdI; rw [this]
theorem take_ne {l : List Rc} {k : I2} {i : Nat} (hi : i < l.length) (hn : ∀ r ∈ l.take i, keyR r ≠ k) (h : keyR l[i] ≠ k) : ∀ r ∈ l.take (i + 1), keyR r ≠ k := by
  rw [List.take_succ_eq_append_getElem hi]
  intro r hr
  rcases List.mem_append.1 hr with hr | hr
  · exact hn r hr
  · rw [List.mem_singleton.1 hr]; exact h
set_option maxHeartbeats 4000000 in
set_option maxRecDepth 100000 in
theorem c_rFind (A : Option Addr) (N c : Nat) (l : List Rc) (p n : Int) (w : World) (hn : N ≤ 9223372036854775807) (hr : SlR w w.heap.size 7 A N (l.flatMap cR)) :
    Calls Tryz.prog 38 #[.slice A N c, .int .i64 p, .int .i64 n] w fun e w' => e = .returned (.int .i64 (fdI (p, n) l)) ∧ w = w' := by
  have HL := hide hr.lenR
  go_enter Tryz.func38, Tryz.ntmps38
  go_wp2
  go_loop [7] (fun i => ∃ k : Nat, k ≤ N ∧ i = .int .i64 k ∧ Hid (∀ r ∈ l.take k, keyR r ≠ (p, n))) (fun i => N - (intOf i).toNat)
  case atStart => exact ⟨0, Nat.zero_le _, rfl, fun r hr => by simp at hr⟩
  case round =>
    obtain ⟨k, hk, rfl, HN⟩ := hrel
    by_cases hlt : k < N
    · have hkl : k < l.length := by have := HL.out; omega
      obtain ⟨b, off, rfl, hbb, x0, x1, -⟩ := hr.atR (Below.refl _ _) hkl
      have HY := hide (fun h => fdI_at hkl (k := (p, n)) h HN.out)
      have HX := hide (fun h => take_ne hkl (k := (p, n)) HN.out h)
      clear hr HN
      generalize l[k] = r at *
      have hlt' : (k : Int) < (N : Int) := by omega
      by_cases hq : r.pen = p
      · have hd : (r.pen == p) = true := by simpa using hq
        have HQ := hide hq
        clear hq
        by_cases hq2 : r.num = n
        · have hd2 : (r.num == n) = true := by simpa using hq2
          have HZ := hide (HY.out (by rw [keyR, HQ.out, hq2]))
          clear hq2 HY HX HQ
          go_wp2_with fail
          go_ret
          exact ⟨ret_int HZ.out.symm, rfl⟩
        · have hd2 : (r.num == n) = false := by simpa using hq2
          have HZ : Hid (∀ r ∈ l.take (k + 1), keyR r ≠ (p, n)) := hide (HX.out (fun e => hq2 (congrArg Prod.snd e)))
          clear hq2 HY HX HQ
          go_wp2_with fail
          go_round
          case rel => exact ⟨k + 1, by omega, by go_num, HZ⟩
          case measure => simp [intOf]; omega
      · have hd : (r.pen == p) = false := by simpa using hq
        have HZ : Hid (∀ r ∈ l.take (k + 1), keyR r ≠ (p, n)) := hide (HX.out (fun e => hq (congrArg Prod.fst e)))
        clear hq HY HX
        go_wp2_with fail
        go_round
        case rel => exact ⟨k + 1, by omega, by go_num, HZ⟩
        case measure => simp [intOf]; omega
    · have HZ : Hid (fdI (p, n) l = -1) := hide (fdI_no (by
        have h := HN.out
        rw [List.take_of_length_le (by have := HL.out; omega)] at h
        exact h))
      clear HN hr
      go_wp2_with fail
      go_ret
      exact ⟨ret_int HZ.out.symm, rfl⟩
end Go.Proofs.YtcfbgelhggapjaaGreatDoor
/- Replica: equality of records; the reference's SameRecords and Same; slices.Equal at records and the package's Same. -/
namespace Go.Proofs.YtcfbgelhggapjaaGreatDoor
open Go.RowKit Go.Shelf
abbrev rpV (p : Int) (A : Option Addr) (n c : Nat) : Value := .agg #[.int .i64 p, .slice A n c]
theorem text_iff (a b : ByteArray) : a.toList = b.toList ↔ a = b := by
  rw [ByteArray.toList_eq, ByteArray.toList_eq]
  constructor
  · intro h
    obtain ⟨⟨l⟩⟩ := a
    obtain ⟨⟨k⟩⟩ := b
    have h' : l = k := h
    rw [h']
  · rintro rfl; rfl
theorem eqRc (w : World) (s t : Rc) : (Op.equalIn 10000 49 (rcV s) (rcV t)).run Tryz.prog w = .ok (decide (s = t)) w := by
  rw [run_equalIn_struct w 9999 49 _ _ (by kernel_rfl) (by kernel_rfl)]
  simp only [Program.fieldsOf, Tryz.underlying49]
  simp [go_sem, Op.eqFields]
  simp only [text_iff, Rc.ext_iff' s t]
  by_cases h1 : s.pen = t.pen
  · by_cases h2 : s.num = t.num
    · by_cases h3 : s.at_ = t.at_
      · by_cases h4 : s.of = t.of
        · by_cases h5 : s.which = t.which
          · by_cases h6 : s.kind = t.kind
            · by_cases h7 : s.text = t.text <;> simp [h1, h2, h3, h4, h5, h6, h7]
            · simp [h1, h2, h3, h4, h5, h6]
          · simp [h1, h2, h3, h4, h5]
        · simp [h1, h2, h3, h4]
      · simp [h1, h2, h3]
    · simp [h1, h2]
  · simp [h1]
theorem neqRc (w : World) (s t : Rc) : (binOp .neq 49 (rcV s) (rcV t)).run Tryz.prog w = .ok (.bool (!decide (s = t))) w := by
  simp only [binOp]
  have := eqRc w s t
  simp [Op.equal, Op.maxDepth] at this ⊢
  rw [this]; rfl
theorem eqlRc (w : World) (s t : Rc) : (binOp .eql 49 (rcV s) (rcV t)).run Tryz.prog w = .ok (.bool (decide (s = t))) w := by
  simp only [binOp]
  have := eqRc w s t
  simp [Op.equal, Op.maxDepth] at this ⊢
  rw [this]; rfl
set_option maxHeartbeats 800000 in
theorem c_rSameRecords (A : Option Addr) (n c : Nat) (l : List Rc) (B : Option Addr) (m d : Nat) (k : List Rc) (w : World) (hn : n ≤ 9223372036854775807) (hm : m ≤ 9223372036854775807) (hr : SlR w w.heap.size 7 A n (l.flatMap cR)) (hs : SlR w w.heap.size 7 B m (k.flatMap cR)) :
    Calls Tryz.prog 15 #[.slice A n c, .slice B m d] w fun e w' => e = .returned (.bool (decide (l = k))) ∧ Below w.heap.size w w' := by
  have hl := hr.lenR
  have hk := hs.lenR
  by_cases hlen : n = m
  · subst hlen
    have hb0 : ((n : Int) != (n : Int)) = false := by simp
    go_enter Tryz.func15, Tryz.ntmps15
    go_wp2
    go_loopw [5] (fun i wr => ∃ j : Nat, j ≤ n ∧ i = .int .i64 j ∧ Hid (l.take j = k.take j) ∧ Below w.heap.size w wr) (fun i _ => n - (intOf i).toNat)
    case atStart => exact ⟨0, Nat.zero_le _, rfl, rfl, Below.refl _ _⟩
    case round =>
      obtain ⟨j, hj, rfl, htk, hb⟩ := hrel
      by_cases hlt : j < n
      · have h1 : j < l.length := by omega
        have h2 : j < k.length := by omega
        obtain ⟨b, off, rfl, hbb, hx0, hx1, hx2, hx3, hx4, hx5, hx6⟩ := hr.atR hb h1
        obtain ⟨b', off', rfl, hbb', hy0, hy1, hy2, hy3, hy4, hy5, hy6⟩ := hs.atR hb h2
        have H := hide (And.intro htk.out (And.intro (List.take_succ_eq_append_getElem h1) (List.take_succ_eq_append_getElem h2)))
        have HE := hide (fun h : l = k => (by subst h; rfl : l[j] = k[j]'h2))
        have hji : (j : Int) < (n : Int) := by omega
        clear hr hs htk hl hk
        generalize l[j] = s at *
        generalize k[j] = t at *
        by_cases hst : s = t
        · have HS := hide hst
          have hq : ∀ w, (binOp .neq 49 (rcV s) (rcV t)).run Tryz.prog w = .ok (.bool false) w := fun w => by rw [neqRc w s t, decide_eq_true hst]; rfl
          simp only [rcV] at hq
          clear hst
          go_wp2_with fail
          go_quiet (fail)
          go_wp2_with fail
          go_roundw
          case rel =>
            obtain ⟨h1, h2, h3⟩ := H.out
            exact ⟨j + 1, by omega, by go_num, hide (by rw [h2, h3, h1, HS.out]), below_drewN hb _⟩
          case measure => simp [intOf]; omega
        · have HS := hide hst
          have hq : ∀ w, (binOp .neq 49 (rcV s) (rcV t)).run Tryz.prog w = .ok (.bool true) w := fun w => by rw [neqRc w s t, decide_eq_false hst]; rfl
          simp only [rcV] at hq
          clear hst
          go_wp2_with fail
          go_quiet (fail)
          go_wp2_with fail
          go_ret
          exact ⟨ret_bool (by rw [eq_comm, decide_eq_false_iff_not]; exact fun h => HS.out (HE.out h)), below_drewN hb _⟩
      · have H := hide htk.out
        have HL := hide (And.intro hl hk)
        clear htk hr hs hl hk
        go_wp2
        go_ret
        have h := H.out
        obtain ⟨hl, hk⟩ := HL.out
        rw [List.take_of_length_le (by omega), List.take_of_length_le (by omega)] at h
        exact ⟨ret_bool (by rw [decide_eq_true h]), hb⟩
  · have hb0 : ((n : Int) != (m : Int)) = true := by simp; omega
    have HL := hide (And.intro hl (And.intro hk hlen))
    clear hl hk hlen hr hs
    go_enter Tryz.func15, Tryz.ntmps15
    go_wp2
    go_ret
    exact ⟨ret_bool (by obtain ⟨hl, hk, hne⟩ := HL.out; rw [eq_comm, decide_eq_false_iff_not]; rintro rfl; omega), Below.refl _ _⟩
theorem c_rSame (p : Int) (A : Option Addr) (n c : Nat) (l : List Rc) (q : Int) (B : Option Addr) (m d : Nat) (k : List Rc) (w : World) (hn : n ≤ 9223372036854775807) (hm : m ≤ 9223372036854775807) (hr : SlR w w.heap.size 7 A n (l.flatMap cR)) (hs : SlR w w.heap.size 7 B m (k.flatMap cR)) :
    Calls Tryz.prog 20 #[rpV p A n c, rpV q B m d] w fun e w' => e = .returned (.bool (decide (p = q) && decide (l = k))) ∧ Below w.heap.size w w' := by
  have hb := balloc (balloc (Below.refl w.heap.size w) (.cells #[.int .i64 p, .slice A n c] 25)) (.cells #[.int .i64 q, .slice B m d] 25)
  have hk := c_rSameRecords A n c l B m d k _ hn hm (hr.to' hb) (hs.to' hb)
  have HB := hide hb
  clear hr hs hb
  generalize decide (l = k) = L at *
  by_cases h : p = q
  · have d1 : (p == q) = true := by simp [h]
    have H := hide h
    clear h
    go_enter Tryz.func20, Tryz.ntmps20
    go_wp2_with (refine hk.mono ?_; clear hk; rintro e w1 ⟨rfl, hb1⟩)
    go_ret
    exact ⟨ret_bool (by rw [decide_eq_true H.out]; simp), bthen HB.out hb1⟩
  · have d1 : (p == q) = false := by simp [h]
    have H := hide h
    clear h hk
    go_enter Tryz.func20, Tryz.ntmps20
    go_wp2_with fail
    go_ret
    exact ⟨ret_bool (by rw [decide_eq_false H.out]; simp), HB.out⟩
set_option maxHeartbeats 800000 in
theorem c_sEqual (A : Option Addr) (n c : Nat) (l : List Rc) (B : Option Addr) (m d : Nat) (k : List Rc) (w : World) (hn : n ≤ 9223372036854775807) (hm : m ≤ 9223372036854775807) (hr : SlR w w.heap.size 7 A n (l.flatMap cR)) (hs : SlR w w.heap.size 7 B m (k.flatMap cR)) :
    Calls Tryz.prog 69 #[.slice A n c, .slice B m d] w fun e w' => e = .returned (.bool (decide (l = k))) ∧ Below w.heap.size w w' := by
  have hl := hr.lenR
  have hk := hs.lenR
  by_cases hlen : n = m
  · subst hlen
    have hb0 : ((n : Int) != (n : Int)) = false := by simp
    go_enter Tryz.func69, Tryz.ntmps69
    go_wp2
    go_loopw [5, 13] (fun _ i wr => ∃ j : Nat, j ≤ n ∧ i = .int .i64 j ∧ Hid (l.take j = k.take j) ∧ Below w.heap.size w wr) (fun _ i _ => n - (intOf i).toNat)
    case atStart => exact ⟨0, Nat.zero_le _, rfl, rfl, Below.refl _ _⟩
    case round =>
      obtain ⟨j, hj, rfl, htk, hb⟩ := hrel
      by_cases hlt : j < n
      · have h1 : j < l.length := by omega
        have h2 : j < k.length := by omega
        obtain ⟨b, off, rfl, hbb, hx0, hx1, hx2, hx3, hx4, hx5, hx6⟩ := hr.atR hb h1
        obtain ⟨b', off', rfl, hbb', hy0, hy1, hy2, hy3, hy4, hy5, hy6⟩ := hs.atR hb h2
        have H := hide (And.intro htk.out (And.intro (List.take_succ_eq_append_getElem h1) (List.take_succ_eq_append_getElem h2)))
        have HE := hide (fun h : l = k => (by subst h; rfl : l[j] = k[j]'h2))
        have hji : (j : Int) < (n : Int) := by omega
        clear hr hs htk hl hk
        generalize l[j] = s at *
        generalize k[j] = t at *
        by_cases hst : s = t
        · have HS := hide hst
          have hq : ∀ w, (binOp .neq 49 (rcV s) (rcV t)).run Tryz.prog w = .ok (.bool false) w := fun w => by rw [neqRc w s t, decide_eq_true hst]; rfl
          simp only [rcV] at hq
          clear hst
          go_wp2_with fail
          go_quiet (fail)
          go_wp2_with fail
          go_roundw
          case rel =>
            obtain ⟨h1, h2, h3⟩ := H.out
            exact ⟨j + 1, by omega, by go_num, hide (by rw [h2, h3, h1, HS.out]), below_drewN hb _⟩
          case measure => simp [intOf]; omega
        · have HS := hide hst
          have hq : ∀ w, (binOp .neq 49 (rcV s) (rcV t)).run Tryz.prog w = .ok (.bool true) w := fun w => by rw [neqRc w s t, decide_eq_false hst]; rfl
          simp only [rcV] at hq
          clear hst
          go_wp2_with fail
          go_quiet (fail)
          go_wp2_with fail
          go_ret
          exact ⟨ret_bool (by rw [eq_comm, decide_eq_false_iff_not]; exact fun h => HS.out (HE.out h)), below_drewN hb _⟩
      · have H := hide htk.out
        have HL := hide (And.intro hl hk)
        clear htk hr hs hl hk
        go_wp2
        go_ret
        have h := H.out
        obtain ⟨hl, hk⟩ := HL.out
        rw [List.take_of_length_le (by omega), List.take_of_length_le (by omega)] at h
        exact ⟨ret_bool (by rw [decide_eq_true h]), hb⟩
  · have hb0 : ((n : Int) != (m : Int)) = true := by simp; omega
    have HL := hide (And.intro hl (And.intro hk hlen))
    clear hl hk hlen hr hs
    go_enter Tryz.func69, Tryz.ntmps69
    go_wp2
    go_ret
    exact ⟨ret_bool (by obtain ⟨hl, hk, hne⟩ := HL.out; rw [eq_comm, decide_eq_false_iff_not]; rintro rfl; omega), Below.refl _ _⟩
theorem c_pSame (p : Int) (A : Option Addr) (n c : Nat) (l : List Rc) (q : Int) (B : Option Addr) (m d : Nat) (k : List Rc) (w : World) (hn : n ≤ 9223372036854775807) (hm : m ≤ 9223372036854775807) (hr : SlR w w.heap.size 7 A n (l.flatMap cR)) (hs : SlR w w.heap.size 7 B m (k.flatMap cR)) :
    Calls Tryz.prog 30 #[rpV p A n c, rpV q B m d] w fun e w' => e = .returned (.bool (decide (p = q) && decide (l = k))) ∧ Below w.heap.size w w' := by
  have hb := balloc (balloc (Below.refl w.heap.size w) (.cells #[.int .i64 p, .slice A n c] 25)) (.cells #[.int .i64 q, .slice B m d] 25)
  have hk := c_sEqual A n c l B m d k _ hn hm (hr.to' hb) (hs.to' hb)
  have HB := hide hb
  clear hr hs hb
  generalize decide (l = k) = L at *
  by_cases h : p = q
  · have d1 : (p == q) = true := by simp [h]
    have H := hide h
    clear h
    go_enter Tryz.func30, Tryz.ntmps30
    go_wp2_with (refine hk.mono ?_; clear hk; rintro e w1 ⟨rfl, hb1⟩)
    go_ret
    exact ⟨ret_bool (by rw [decide_eq_true H.out]; simp), bthen HB.out hb1⟩
  · have d1 : (p == q) = false := by simp [h]
    have H := hide h
    clear h hk
    go_enter Tryz.func30, Tryz.ntmps30
    go_wp2_with fail
    go_ret
    exact ⟨ret_bool (by rw [decide_eq_false H.out]; simp), HB.out⟩
end Go.Proofs.YtcfbgelhggapjaaGreatDoor
/- Replica: the reference's Valid. -/
namespace Go.Proofs.YtcfbgelhggapjaaGreatDoor
open Go.RowKit Go.Shelf
section
variable {w wr : World} {B n : Nat} {b off : Nat} {l : List Rc}
theorem SlR.cellsR (h : SlR w B 7 (some ⟨b, off, none⟩) n (l.flatMap cR)) (hb : Below B w wr) {k : Nat} (hk : k < l.length) :
    b < B ∧ wr.cell? ⟨b, off + k * 7, none⟩ = some (.int .i64 l[k].pen) ∧ wr.cell? ⟨b, off + k * 7 + 1, none⟩ = some (.int .i64 l[k].num) ∧ wr.cell? ⟨b, off + k * 7 + 2, none⟩ = some (.int .i64 l[k].at_) ∧
      wr.cell? ⟨b, off + k * 7 + 3, none⟩ = some (.int .i64 l[k].of) ∧ wr.cell? ⟨b, off + k * 7 + 4, none⟩ = some (.int .i64 l[k].which) ∧ wr.cell? ⟨b, off + k * 7 + 5, none⟩ = some (.int .i64 l[k].kind) ∧ wr.cell? ⟨b, off + k * 7 + 6, none⟩ = some (.string l[k].text) := by
  obtain ⟨b', off', e, hbb, hc⟩ := h.atR hb hk
  cases e
  exact ⟨hbb, hc⟩
theorem SlR.bwR {w0 : World} (h : SlR w0 w0.heap.size 7 (some ⟨b, off, none⟩) n (l.flatMap cR)) {k : Nat} (hk : k < l.length) :
    (∀ x : BW w0, x.val.cell? ⟨b, off + k * 7, none⟩ = some (.int .i64 l[k].pen)) ∧ (∀ x : BW w0, x.val.cell? ⟨b, off + k * 7 + 1, none⟩ = some (.int .i64 l[k].num)) ∧ (∀ x : BW w0, x.val.cell? ⟨b, off + k * 7 + 2, none⟩ = some (.int .i64 l[k].at_)) ∧
      (∀ x : BW w0, x.val.cell? ⟨b, off + k * 7 + 3, none⟩ = some (.int .i64 l[k].of)) ∧ (∀ x : BW w0, x.val.cell? ⟨b, off + k * 7 + 4, none⟩ = some (.int .i64 l[k].which)) ∧ (∀ x : BW w0, x.val.cell? ⟨b, off + k * 7 + 5, none⟩ = some (.int .i64 l[k].kind)) ∧ (∀ x : BW w0, x.val.cell? ⟨b, off + k * 7 + 6, none⟩ = some (.string l[k].text)) :=
  ⟨fun x => (h.cellsR x.ok hk).2.1, fun x => (h.cellsR x.ok hk).2.2.1, fun x => (h.cellsR x.ok hk).2.2.2.1, fun x => (h.cellsR x.ok hk).2.2.2.2.1, fun x => (h.cellsR x.ok hk).2.2.2.2.2.1, fun x => (h.cellsR x.ok hk).2.2.2.2.2.2.1, fun x => (h.cellsR x.ok hk).2.2.2.2.2.2.2⟩
theorem SlR.some_of {A : Option Addr} {k : Nat} {xs : List Value} (h : SlR w B k A n xs) (hn : 0 < n) : ∃ b off, A = some ⟨b, off, none⟩ ∧ b < B := by
  obtain ⟨b, off, e, hb, _⟩ := h.2 hn
  exact ⟨b, off, e, hb⟩
end
theorem ok_no {l : List Rc} {i : Nat} (hi : i < l.length) (h : okI l i = false) : vlB l = false := by
  unfold vlB chB
  rw [Bool.and_eq_false_iff]
  left
  rw [Bool.eq_false_iff, Ne, List.all_eq_true]
  intro g
  rw [g i (List.mem_range.2 hi)] at h
  cases h
theorem ok_zero {l : List Rc} (h : 0 < l.length) : okI l 0 = (fmB l[0] && decide (l[0].num = 1)) := by
  unfold okI; simp [h]
theorem ok_succ {l : List Rc} {k : Nat} (h : k + 1 < l.length) : okI l (k + 1) = (fmB l[k + 1] && okAt (l[k]'(by omega)) l[k + 1]) := by
  unfold okI
  have h0 : k < l.length := by omega
  simp [h, h0]
theorem ok_fm {l : List Rc} {k : Nat} (h : k < l.length) (g : okI l k = true) : fmB l[k] = true := by
  unfold okI at g
  rw [Bool.and_eq_true, bang h] at g
  exact g.1
theorem nd_of_ok {l : List Rc} (h : ∀ i, i < l.length → okI l i = true) : (l.map keyR).Nodup := by
  rw [List.Nodup, List.pairwise_map]
  exact (pw_iff.2 fun i j hi hj hij => srt_of_ch h j i hi hj hij).imp fun h => ls_ne h
theorem so_find {l : List Rc} (hn : (l.map keyR).Nodup) {r : Rc} (hr : rootB r = false) : soB l r = match fdR (tgt r) l with | none => false | some o => bfB o r := by
  unfold soB
  rw [hr, Bool.false_or]
  cases hf : fdR (tgt r) l with
  | none =>
    dsimp only
    rw [List.any_eq_false]
    intro o ho
    simp [fd_none.1 hf o ho]
  | some o =>
    dsimp only
    obtain ⟨h1, h2⟩ := fd_some hf
    cases hb : bfB o r with
    | true => rw [List.any_eq_true]; exact ⟨o, h1, by simp [h2, hb]⟩
    | false =>
      rw [List.any_eq_false]
      intro o' ho'
      by_cases e : keyR o' = tgt r
      · have : o' = o := key_eq hn ho' h1 (e.trans h2.symm)
        subst this
        simp [hb]
      · simp [e]
theorem so_no {l : List Rc} {r : Rc} (hr : r ∈ l) (h : soB l r = false) : vlB l = false := by
  unfold vlB
  rw [Bool.and_eq_false_iff]
  right
  rw [Bool.eq_false_iff, Ne, List.all_eq_true]
  intro g
  rw [g r hr] at h
  cases h
theorem vl_yes {l : List Rc} (h1 : ∀ i, i < l.length → okI l i = true) (h2 : ∀ i (hi : i < l.length), soB l l[i] = true) : vlB l = true := by
  unfold vlB chB
  rw [Bool.and_eq_true, List.all_eq_true, List.all_eq_true]
  refine ⟨fun i hi => h1 i (List.mem_range.1 hi), fun r hr => ?_⟩
  obtain ⟨i, hi, rfl⟩ := List.mem_iff_getElem.1 hr
  exact h2 i hi
theorem fm_of {r : Rc} (h : fmB r = true) : (r.of < 0 ∧ rootB r = true) ∨ (¬ r.of < 0 ∧ rootB r = false) := by
  rcases fm_tgt h with g | ⟨g, h1, _⟩
  · left
    refine ⟨?_, g⟩
    unfold rootB at g
    simp at g
    omega
  · exact .inr ⟨by omega, g⟩
set_option linter.unusedSimpArgs false in
set_option maxRecDepth 100000 in
set_option maxHeartbeats 8000000 in
theorem c_rValid (p : Int) (A : Option Addr) (N c : Nat) (l : List Rc) (w : World) (hr : SlR w w.heap.size 7 A N (l.flatMap cR)) (hN : N ≤ 9223372036854775807) :
    Calls Tryz.prog 17 #[rpV p A N c] w fun e w' => e = .returned (.bool (vrB p l)) ∧ Below w.heap.size w w' := by
  have HL := hide hr.lenR
  have HB0 := hide (balloc (Below.refl w.heap.size w) (.cells #[.int .i64 p, .slice A N c] 25))
  by_cases h1 : p < 0
  · have HZ : Hid (vrB p l = false) := hide (by unfold vrB inB; simp; omega)
    clear hr
    go_enter Tryz.func17, Tryz.ntmps17
    go_wp2_with fail
    go_ret
    exact ⟨ret_bool HZ.out.symm, HB0.out⟩
  by_cases h2 : p > 39
  · have HZ : Hid (vrB p l = false) := hide (by unfold vrB inB; simp; omega)
    clear hr
    go_enter Tryz.func17, Tryz.ntmps17
    go_wp2_with fail
    go_ret
    exact ⟨ret_bool HZ.out.symm, HB0.out⟩
  by_cases h3 : (N : Int) > 150
  · have HZ : Hid (vrB p l = false) := hide (by unfold vrB; have := HL.out; simp; omega)
    clear hr
    go_enter Tryz.func17, Tryz.ntmps17
    go_wp2_with fail
    go_ret
    exact ⟨ret_bool HZ.out.symm, HB0.out⟩
  have HV : Hid (vrB p l = vlB l) := hide (by unfold vrB inB; have := HL.out; rw [decide_eq_true (show 0 ≤ p by omega), decide_eq_true (show p ≤ 39 by omega), decide_eq_true (show l.length ≤ 150 by omega)]; rfl)
  go_enter Tryz.func17, Tryz.ntmps17
  go_wp2_with fail
  go_loopw [4] (fun i wr => ∃ k : Nat, k ≤ N ∧ i = .int .i64 k ∧ Hid (∀ j, j < k → okI l j = true) ∧ Below w.heap.size w wr) (fun i _ => N - (intOf i).toNat)
  case atStart => exact ⟨0, Nat.zero_le _, rfl, fun j hj => absurd hj (by omega), HB0.out⟩
  case round =>
    obtain ⟨k, hk, rfl, HI, hb⟩ := hrel
    by_cases hlt : k < N
    · have hkl : k < l.length := by have := HL.out; omega
      obtain ⟨b, off, rfl, hbb⟩ := hr.some_of (by omega)
      obtain ⟨-, x0, x1, x2, x3, x4, x5, x6⟩ := hr.cellsR hb hkl
      have hji : (k : Int) < (N : Int) := by omega
      have hkF := c_rFormed l[k] wr
      have HX : Hid (∀ w1, Below wr.heap.size wr w1 → b < w.heap.size ∧ w1.cell? ⟨b, off + k * 7, none⟩ = some (.int .i64 l[k].pen) ∧ w1.cell? ⟨b, off + k * 7 + 1, none⟩ = some (.int .i64 l[k].num) ∧ w1.cell? ⟨b, off + k * 7 + 2, none⟩ = some (.int .i64 l[k].at_)) := fun w1 h => by
        obtain ⟨a0, a1, a2, a3, -⟩ := hr.cellsR (bthen hb h) hkl
        exact ⟨a0, a1, a2, a3⟩
      have HYp : Hid (∀ (h : 0 < k) w1, Below wr.heap.size wr w1 → w1.cell? ⟨b, off + (k - 1) * 7, none⟩ = some (.int .i64 (l[k - 1]'(by omega)).pen) ∧ w1.cell? ⟨b, off + (k - 1) * 7 + 1, none⟩ = some (.int .i64 (l[k - 1]'(by omega)).num) ∧ w1.cell? ⟨b, off + (k - 1) * 7 + 2, none⟩ = some (.int .i64 (l[k - 1]'(by omega)).at_)) := fun h0 w1 h => by
        obtain ⟨-, a1, a2, a3, -⟩ := hr.cellsR (bthen hb h) (k := k - 1) (by omega)
        exact ⟨a1, a2, a3⟩
      have HNo := hide (fun h : okI l k = false => (HV.out.trans (ok_no hkl h) : vrB p l = false))
      have HYes := hide (fun (h : okI l k = true) => (fun j hj => by
        by_cases e : j = k
        · subst e; exact h
        · exact HI.out j (by omega) : ∀ j, j < k + 1 → okI l j = true))
      have HP : Hid (∀ (h : 0 < k), 1 ≤ (l[k - 1]'(by omega)).num ∧ (l[k - 1]'(by omega)).num ≤ 150) := fun h => by
        have := fm_num (ok_fm (by omega) (HI.out (k - 1) (by omega)))
        omega
      have HOz : Hid (∀ h : k = 0, okI l k = (fmB l[k] && decide (l[k].num = 1))) := fun h => by subst h; exact ok_zero hkl
      have HOs : Hid (∀ h : 0 < k, okI l k = (fmB l[k] && okAt (l[k - 1]'(by omega)) l[k])) := fun h => by
        have := ok_succ (l := l) (k := k - 1) (by omega)
        simp only [Nat.sub_add_cancel h] at this
        exact this
      clear hr HI
      cases hf : fmB l[k] with
      | false =>
        have HZ : Hid (vrB p l = false) := hide (HNo.out (by
          rcases Nat.eq_zero_or_pos k with h | h
          · rw [HOz.out h, hf]; rfl
          · rw [HOs.out h, hf]; rfl))
        rw [hf] at hkF
        clear HNo HYes HOz HOs HYp HP HX hf
        generalize l[k] = x at *
        go_wp2_with (go_at_call 56; refine hkF.mono ?_; clear hkF; rintro e w1 ⟨rfl, hb1⟩)
        go_ret
        exact ⟨ret_bool HZ.out.symm, bthen hb hb1⟩
      | true =>
        rw [hf] at hkF
        rcases Nat.eq_zero_or_pos k with h0 | h0
        · have HO : Hid (okI l k = decide (l[k].num = 1)) := hide (by rw [HOz.out h0, hf]; rfl)
          have d0 : ((k : Int) == 0) = true := by simp [h0]
          have d0' : decide ((0 : Int) < (k : Int)) = false := decide_eq_false (by omega)
          have d0'' : decide (0 < k) = false := decide_eq_false (by omega)
          clear HOz HOs HYp HP hf h0
          generalize l[k] = x at *
          go_wp2_with (go_at_call 56; refine hkF.mono ?_; clear hkF; rintro e w1 ⟨rfl, hb1⟩)
          obtain ⟨-, z0, z1, z2⟩ := HX.out w1 hb1
          have HB := hide (bthen hb hb1)
          clear x0 x1 x2 x3 x4 x5 x6 HX hb hb1
          by_cases h1 : x.num = 1
          · have HZ := hide (HYes.out (by rw [HO.out, decide_eq_true h1]))
            clear HNo HYes HO
            have d1 : (x.num != 1) = false := by simp [h1]
            clear h1
            go_wp2_with fail
            go_quiet (fail)
            go_wp2_with fail
            go_quiet (fail)
            go_wp2_with fail
            go_roundw
            case rel => exact ⟨k + 1, by omega, by go_num, HZ, (by first | exact below_drewN HB.out _ | exact below_drewN (below_drewN HB.out _) _ | exact below_drewN (below_drewN (below_drewN HB.out _) _) _)⟩
            case measure => simp [intOf]; omega
          · have HZ : Hid (vrB p l = false) := hide (HNo.out (by rw [HO.out, decide_eq_false h1]))
            clear HNo HYes HO
            have d1 : (x.num != 1) = true := by simp [h1]
            clear h1
            go_wp2_with fail
            go_quiet (fail)
            go_wp2_with fail
            go_quiet (fail)
            go_wp2_with fail
            go_ret
            exact ⟨ret_bool HZ.out.symm, (by first | exact below_drewN HB.out _ | exact below_drewN (below_drewN HB.out _) _ | exact below_drewN (below_drewN (below_drewN HB.out _) _) _)⟩
        · have HO : Hid (okI l k = okAt (l[k - 1]'(by omega)) l[k]) := hide (by rw [HOs.out h0, hf]; rfl)
          have d0 : ((k : Int) == 0) = false := by simp; omega
          have d0' : decide ((0 : Int) < (k : Int)) = true := decide_eq_true (by omega)
          have d0'' : decide (0 < k) = true := decide_eq_true (by omega)
          obtain ⟨hp1, hp2⟩ := HP.out h0
          have HYq := hide (HYp.out h0)
          clear HOz HOs HP hf HYp
          generalize l[k - 1]'(by omega) = y at *
          generalize l[k] = x at *
          go_wp2_with (go_at_call 56; refine hkF.mono ?_; clear hkF; rintro e w1 ⟨rfl, hb1⟩)
          obtain ⟨hbb2, z0, z1, z2⟩ := HX.out w1 hb1
          obtain ⟨y0, y1, y2⟩ := HYq.out w1 hb1
          have HB := hide (bthen hb hb1)
          have ek : ((k : Int) - 1).toNat = k - 1 := by omega
          have ek1 : (0 : Int) ≤ (k : Int) - 1 := by omega
          have ek2 : (k : Int) - 1 < (N : Int) := by omega
          clear x0 x1 x2 x3 x4 x5 x6 HX HYq hb hb1 h0
          by_cases h2 : x.pen = y.pen
          · have d2 : (x.pen != y.pen) = false := by simp [h2]
            by_cases h1 : x.num = y.num + 1
            · have d1 : (x.num != y.num + 1) = false := by simp [h1]
              by_cases h3 : x.at_ < y.at_
              · have HZ : Hid (vrB p l = false) := hide (HNo.out (by rw [HO.out, show okAt y x = false by unfold okAt; rw [if_pos h2]; simp; omega]))
                clear HNo HYes HO
                have d3 : decide (x.at_ < y.at_) = true := by simp [h3]
                clear h1 h2
                go_wp2_with fail
                go_quiet (fail)
                go_wp2_with fail
                go_quiet (fail)
                go_wp2_with fail
                go_ret
                exact ⟨ret_bool HZ.out.symm, (by first | exact below_drewN HB.out _ | exact below_drewN (below_drewN HB.out _) _ | exact below_drewN (below_drewN (below_drewN HB.out _) _) _)⟩
              · have HZ := hide (HYes.out (by rw [HO.out, show okAt y x = true by unfold okAt; rw [if_pos h2]; simp; omega]))
                clear HNo HYes HO
                have d3 : decide (x.at_ < y.at_) = false := by simp; omega
                clear h1 h2
                go_wp2_with fail
                go_quiet (fail)
                go_wp2_with fail
                go_quiet (fail)
                go_wp2_with fail
                go_roundw
                case rel => exact ⟨k + 1, by omega, by go_num, HZ, (by first | exact below_drewN HB.out _ | exact below_drewN (below_drewN HB.out _) _ | exact below_drewN (below_drewN (below_drewN HB.out _) _) _)⟩
                case measure => simp [intOf]; omega
            · have HZ : Hid (vrB p l = false) := hide (HNo.out (by rw [HO.out, show okAt y x = false by unfold okAt; rw [if_pos h2]; simp [h1]]))
              clear HNo HYes HO
              have d1 : (x.num != y.num + 1) = true := by simp [h1]
              clear h1 h2
              go_wp2_with fail
              go_quiet (fail)
              go_wp2_with fail
              go_quiet (fail)
              go_wp2_with fail
              go_ret
              exact ⟨ret_bool HZ.out.symm, (by first | exact below_drewN HB.out _ | exact below_drewN (below_drewN HB.out _) _ | exact below_drewN (below_drewN (below_drewN HB.out _) _) _)⟩
          · have d2 : (x.pen != y.pen) = true := by simp [h2]
            by_cases h1 : x.num = 1
            · have d1 : (x.num != 1) = false := by simp [h1]
              by_cases h3 : x.pen < y.pen
              · have HZ : Hid (vrB p l = false) := hide (HNo.out (by rw [HO.out, show okAt y x = false by unfold okAt; rw [if_neg h2]; simp; omega]))
                clear HNo HYes HO
                have d3 : decide (x.pen < y.pen) = true := by simp [h3]
                clear h1 h2
                go_wp2_with fail
                go_quiet (fail)
                go_wp2_with fail
                go_quiet (fail)
                go_wp2_with fail
                go_ret
                exact ⟨ret_bool HZ.out.symm, (by first | exact below_drewN HB.out _ | exact below_drewN (below_drewN HB.out _) _ | exact below_drewN (below_drewN (below_drewN HB.out _) _) _)⟩
              · have HZ := hide (HYes.out (by rw [HO.out, show okAt y x = true by unfold okAt; rw [if_neg h2]; simp; omega]))
                clear HNo HYes HO
                have d3 : decide (x.pen < y.pen) = false := by simp; omega
                clear h1 h2
                go_wp2_with fail
                go_quiet (fail)
                go_wp2_with fail
                go_quiet (fail)
                go_wp2_with fail
                go_roundw
                case rel => exact ⟨k + 1, by omega, by go_num, HZ, (by first | exact below_drewN HB.out _ | exact below_drewN (below_drewN HB.out _) _ | exact below_drewN (below_drewN (below_drewN HB.out _) _) _)⟩
                case measure => simp [intOf]; omega
            · have HZ : Hid (vrB p l = false) := hide (HNo.out (by rw [HO.out, show okAt y x = false by unfold okAt; rw [if_neg h2]; simp [h1]]))
              clear HNo HYes HO
              have d1 : (x.num != 1) = true := by simp [h1]
              clear h1 h2
              go_wp2_with fail
              go_quiet (fail)
              go_wp2_with fail
              go_quiet (fail)
              go_wp2_with fail
              go_ret
              exact ⟨ret_bool HZ.out.symm, (by first | exact below_drewN HB.out _ | exact below_drewN (below_drewN HB.out _) _ | exact below_drewN (below_drewN (below_drewN HB.out _) _) _)⟩
    · have HOK : Hid (∀ j, j < l.length → okI l j = true) := hide (fun j hj => HI.out j (by have := HL.out; omega))
      have HND := hide (nd_of_ok HOK.out)
      clear HI
      have hb0 := hb
      go_wp2_with fail
      go_loopw [5, 6] (fun i _ wr => ∃ k : Nat, k ≤ N ∧ i = .int .i64 k ∧ Hid (∀ j (h : j < l.length), j < k → soB l l[j] = true) ∧ Below w.heap.size w wr) (fun i _ _ => N - (intOf i).toNat)
      case atStart => exact ⟨0, Nat.zero_le _, rfl, fun j _ hj => absurd hj (by omega), hb0⟩
      case round =>
        clear hb hb0 hk hlt
        obtain ⟨k, hk, rfl, HI, hb⟩ := hrel
        by_cases hlt : k < N
        · have hkl : k < l.length := by have := HL.out; omega
          obtain ⟨b, off, rfl, hbb⟩ := hr.some_of (by omega)
          have hr' := hr.to' hb
          obtain ⟨hbb', x0, x1, x2, x3, x4, x5, x6⟩ := hr'.cellsR (Below.refl _ _) hkl
          obtain ⟨z0, z1, z2, z3, z4, z5, z6⟩ := hr'.bwR hkl
          have hji : (k : Int) < (N : Int) := by omega
          have HNo := hide (fun h : soB l l[k] = false => (HV.out.trans (so_no (List.getElem_mem hkl) h) : vrB p l = false))
          have HYes := hide (fun (h : soB l l[k] = true) => (fun j h' hj => by
            by_cases e : j = k
            · subst e; exact h
            · exact HI.out j h' (by omega) : ∀ j (h : j < l.length), j < k + 1 → soB l l[j] = true))
          have hfm := fm_of (ok_fm hkl (HOK.out k hkl))
          have HF : Hid (rootB l[k] = false → soB l l[k] = match fdR (tgt l[k]) l with | none => false | some o => bfB o l[k]) := hide (so_find HND.out)
          have hfc := fdI_cases (tgt l[k]) l
          have hcF : ∀ x : BW wr, Calls Tryz.prog 38 #[.slice (some ⟨b, off, none⟩) N c, .int .i64 l[k].of, .int .i64 l[k].which] x.val fun e w' => e = .returned (.int .i64 (fdI (tgt l[k]) l)) ∧ x.val = w' := fun x => c_rFind _ N c l _ _ x.val hN (hr'.to' x.ok)
          have HR := hide hr'
          clear hr HI hr'
          rcases hfm with ⟨hof, hroot⟩ | ⟨hof, hroot⟩
          · have HZ := hide (HYes.out (by unfold soB; rw [hroot]; rfl))
            clear HNo HYes HF hroot hfc hcF HR z0 z1 z2 z3 z4 z5 z6
            generalize l[k] = x at *
            go_wp2_with fail
            go_roundw
            case rel => exact ⟨k + 1, by omega, by go_num, HZ, hb⟩
            case measure => simp [intOf]; omega
          · have HF := hide (HF.out hroot)
            rcases hfc with ⟨h1, h2⟩ | ⟨i, hi, h0, h1, h2⟩
            · have HZ : Hid (vrB p l = false) := hide (HNo.out (by rw [HF.out, h1]))
              rw [h2] at hcF
              clear HNo HYes HF hroot h1 h2 HR
              generalize l[k] = x at *
              go_wp2_with fail
              refine wp_region_bw wr (Below.refl _ _) (by kernel_rfl) (by kernel_rfl) ?_
              repeat (go_big_quiet_step ((go_at_call 38; exact bw_same (hcF _))))
              refine wpQuiet_nil ?_
              intro w' hb'
              go_wp2_with fail
              go_ret
              exact ⟨ret_bool HZ.out.symm, bthen hb hb'⟩
            · have HZq : Hid (soB l l[k] = bfB l[i] l[k]) := hide (by rw [HF.out, h1])
              rw [h2] at hcF
              have HI2 := hide (HR.out.bwR hi)
              have hiN : (i : Int) < (N : Int) := by have := HL.out; omega
              clear HF hroot h1 h2 h0
              have hcB := fun x : BW wr => c_rBefore l[i] l[k] x.val
              have HS : Hid (∀ W, Below wr.heap.size wr W → SlR W W.heap.size 7 (some ⟨b, off, none⟩) N (l.flatMap cR)) := hide (fun W h => HR.out.to' h)
              clear HR
              go_wp2_with fail
              refine wp_region_bw wr (Below.refl _ _) (by kernel_rfl) (by kernel_rfl) ?_
              repeat (go_big_quiet_step ((go_at_call 38; exact bw_same (hcF _))))
              refine wpQuiet_nil ?_
              intro w1 hb1
              have hr1 := HS.out w1 hb1
              obtain ⟨y0, y1, y2, y3, y4, y5, y6⟩ := hr1.bwR hi
              obtain ⟨u0, u1, u2, u3, u4, u5, u6⟩ := hr1.bwR hkl
              have hcB := fun x : BW w1 => c_rBefore l[i] l[k] x.val
              clear hcF z0 z1 z2 z3 z4 z5 z6 x0 x1 x2 x3 x4 x5 x6 hr1 HI2
              have hb2 := hide (bthen hb hb1)
              clear hb hb1
              unfold rcV at hcB
              cases hbf : bfB l[i] l[k] with
              | false =>
                have HZ : Hid (vrB p l = false) := hide (HNo.out (by rw [HZq.out, hbf]))
                rw [hbf] at hcB
                clear HNo HYes hbf HZq
                generalize l[k] = x at *
                generalize l[i] = y at *
                go_wp2_with fail
                refine wp_region_bw w1 (Below.refl _ _) (by kernel_rfl) (by kernel_rfl) ?_
                repeat (go_big_quiet_step ((go_at_call 39; exact bw_call (hcB _))))
                refine wpQuiet_nil ?_
                intro w2 hb3
                go_wp2_with fail
                go_ret
                exact ⟨ret_bool HZ.out.symm, bthen hb2.out hb3⟩
              | true =>
                have HZ := hide (HYes.out (by rw [HZq.out, hbf]))
                rw [hbf] at hcB
                clear HNo HYes hbf HZq
                generalize l[k] = x at *
                generalize l[i] = y at *
                go_wp2_with fail
                refine wp_region_bw w1 (Below.refl _ _) (by kernel_rfl) (by kernel_rfl) ?_
                repeat (go_big_quiet_step ((go_at_call 39; exact bw_call (hcB _))))
                refine wpQuiet_nil ?_
                intro w2 hb3
                go_wp2_with fail
                go_roundw
                case rel => exact ⟨k + 1, by omega, by go_num, HZ, bthen hb2.out hb3⟩
                case measure => simp [intOf]; omega
        · have HZ : Hid (vrB p l = true) := hide (HV.out.trans (vl_yes HOK.out (fun i hi => HI.out i hi (by have := HL.out; omega))))
          clear hr HI
          go_wp2_with fail
          go_ret
          exact ⟨ret_bool HZ.out.symm, hb⟩
end Go.Proofs.YtcfbgelhggapjaaGreatDoor
/- Replica: the reference's put. -/
namespace Go.Proofs.YtcfbgelhggapjaaGreatDoor
open Go.RowKit Go.Shelf
theorem Tryz.infoRec : (Tryz.prog.info? 49).map (fun i => (i.zero, i.size, i.bytes)) = some (some (.agg #[.int .i64 0, .int .i64 0, .int .i64 0, .int .i64 0, .int .i64 0, .int .i64 0, .string ⟨#[]⟩]), 7, 64) := by kernel_rfl
abbrev zV : Value := .agg #[.int .i64 0, .int .i64 0, .int .i64 0, .int .i64 0, .int .i64 0, .int .i64 0, .string ⟨#[]⟩]
theorem own_mono {W : World} {b b' : Nat} {e : TypeId} {k n : Nat} {v : Value} {xs : List Value} (h : W.ownsRow b e k v n xs) (hb : b' ≤ b) : W.ownsRow b' e k v n xs := by
  refine ⟨h.1, ?_⟩
  rcases h.2 with h1 | ⟨g, cap, cur, h1, h2, h3⟩
  · exact .inl h1
  · exact .inr ⟨g, cap, cur, h1, Nat.le_trans hb h2, h3⟩
theorem own_ge {W : World} {b : Nat} {e : TypeId} {k n : Nat} {v : Value} {xs : List Value} (h : W.ownsRow b e k v n xs) : ∀ j, v.ownBlock = some j → b ≤ j := by
  intro j hj
  rcases h.2 with ⟨rfl, _⟩ | ⟨g, cap, cur, rfl, hb, _⟩
  · cases hj
  · simp only [Value.ownBlock, Option.some.injEq] at hj
    omega
theorem flatR_take (l : List Rc) : ∀ (k : Nat), (l.flatMap cR).take (k * 7) = (l.take k).flatMap cR := by
  induction l with
  | nil => intro k; simp
  | cons x l ih =>
    intro k
    cases k with
    | zero => simp
    | succ k =>
      have e : (k + 1) * 7 = (cR x).length + k * 7 := by rw [show (cR x).length = 7 from rfl]; omega
      rw [List.flatMap_cons, e, List.take_length_add_append, ih k, List.take_succ_cons, List.flatMap_cons]
theorem flatR_drop (l : List Rc) : ∀ (k : Nat), (l.flatMap cR).drop (k * 7) = (l.drop k).flatMap cR := by
  induction l with
  | nil => intro k; simp
  | cons x l ih =>
    intro k
    cases k with
    | zero => simp
    | succ k =>
      have e : (k + 1) * 7 = (cR x).length + k * 7 := by rw [show (cR x).length = 7 from rfl]; omega
      rw [List.flatMap_cons, e, List.drop_length_add_append, ih k, List.drop_succ_cons]
theorem Blk.slr {w : World} {g : Nat} {t : TypeId} {cs : List Value} {k n : Nat} (h : Blk w g t cs) (hl : cs.length = n * k) : SlR w w.heap.size k (some ⟨g, 0, none⟩) n cs :=
  ⟨hl, fun _ => ⟨g, 0, rfl, h.lt, fun j u hu => by rw [Nat.zero_add, h.cell]; exact hu⟩⟩
theorem Blk.bwR {w0 : World} {g : Nat} {t : TypeId} {s : Rc} (h : Blk w0 g t (cR s)) : (∀ x : BW w0, x.val.cell? ⟨g, 0, none⟩ = some (.int .i64 s.pen)) ∧ (∀ x : BW w0, x.val.cell? ⟨g, 1, none⟩ = some (.int .i64 s.num)) ∧ (∀ x : BW w0, x.val.cell? ⟨g, 2, none⟩ = some (.int .i64 s.at_)) ∧
    (∀ x : BW w0, x.val.cell? ⟨g, 3, none⟩ = some (.int .i64 s.of)) ∧ (∀ x : BW w0, x.val.cell? ⟨g, 4, none⟩ = some (.int .i64 s.which)) ∧ (∀ x : BW w0, x.val.cell? ⟨g, 5, none⟩ = some (.int .i64 s.kind)) ∧ (∀ x : BW w0, x.val.cell? ⟨g, 6, none⟩ = some (.string s.text)) :=
  ⟨fun x => (h.below x.ok h.lt).cell 0, fun x => (h.below x.ok h.lt).cell 1, fun x => (h.below x.ok h.lt).cell 2, fun x => (h.below x.ok h.lt).cell 3, fun x => (h.below x.ok h.lt).cell 4, fun x => (h.below x.ok h.lt).cell 5, fun x => (h.below x.ok h.lt).cell 6⟩
theorem put_at {l : List Rc} {x : Rc} {k : Nat} (hk : k ≤ l.length) (h1 : ∀ r ∈ l.take k, lsB r x = true) (h2 : ∀ (h : k < l.length), lsB l[k] x = false) : putL l x = l.take k ++ x :: l.drop k := by
  have ht : l.takeWhile (fun y => lsB y x) = l.take k := by
    conv => lhs; rw [← List.take_append_drop k l]
    rw [List.takeWhile_append_of_pos h1]
    by_cases h : k < l.length
    · rw [List.drop_eq_getElem_cons h, List.takeWhile_cons_of_neg (by rw [h2 h]; decide), List.append_nil]
    · rw [List.drop_eq_nil_of_le (by omega)]; simp
  have hd : l.dropWhile (fun y => lsB y x) = l.drop k := by
    have h := List.takeWhile_append_dropWhile (p := fun y => lsB y x) (l := l)
    rw [ht] at h
    have h3 := List.take_append_drop k l
    exact List.append_cancel_left (h.trans h3.symm)
  unfold putL
  rw [ht, hd]
set_option maxRecDepth 100000 in
set_option maxHeartbeats 8000000 in
theorem c_rput (A : Option Addr) (N c : Nat) (l : List Rc) (x : Rc) (w : World) (hN : N ≤ 1000) (hc : N ≤ c) (hr : SlR w w.heap.size 7 A N (l.flatMap cR)) :
    Calls Tryz.prog 64 #[.slice A N c, rcV x] w fun e w' => ∃ v, e = .returned v ∧ w'.ownsRow w.heap.size 49 7 v (N + 1) ((putL l x).flatMap cR) ∧ Below w.heap.size w w' := by
  obtain ⟨i0, hi, hz0, hz1, hz2⟩ := info_parts Tryz.infoRec
  have HL := hide hr.lenR
  have HB0 := hide (balloc (Below.refl w.heap.size w) (.cells #[.int .i64 x.pen, .int .i64 x.num, .int .i64 x.at_, .int .i64 x.of, .int .i64 x.which, .int .i64 x.kind, .string x.text] 49))
  go_enter Tryz.func64, Tryz.ntmps64
  unfold rcV
  go_wp2_with fail
  go_loopw [5] (fun i wr => ∃ k : Nat, k ≤ N ∧ i = .int .i64 k ∧ Hid (∀ r ∈ l.take k, lsB r x = true) ∧ Below (w.heap.size + 1) (w.alloc (.cells #[.int .i64 x.pen, .int .i64 x.num, .int .i64 x.at_, .int .i64 x.of, .int .i64 x.which, .int .i64 x.kind, .string x.text] 49)) wr) (fun i _ => N - (intOf i).toNat)
  case atStart => exact ⟨0, Nat.zero_le _, rfl, fun r hr => by simp at hr, Below.refl _ _⟩
  case round =>
    obtain ⟨k, hk, rfl, HI, hb⟩ := hrel
    have hkl' : k ≤ l.length := by have := HL.out; omega
    have hr1' : SlR wr (w.heap.size + 1) 7 A N (l.flatMap cR) := (((hr.below HB0.out).more (Nat.le_succ _))).below hb
    by_cases hlt : k < N
    · have hkl : k < l.length := by have := HL.out; omega
      obtain ⟨b, off, rfl, hbb⟩ := hr.some_of (by omega)
      have hw1 : w.heap.size + 1 ≤ wr.heap.size := by have := hb.size; simpa using this
      have hr2' := hr1'.more hw1
      obtain ⟨z0, z1, z2, z3, z4, z5, z6⟩ := hr2'.bwR hkl
      have gB := (Blk.new w 49 (cR x)).below hb (by omega)
      obtain ⟨y0, y1, y2, y3, y4, y5, y6⟩ := gB.bwR
      have hji : (k : Int) < (N : Int) := by omega
      have hd : decide (k < N) = true := decide_eq_true hlt
      have hcL := fun q : BW wr => c_rlisted l[k] x q.val
      unfold rcV at hcL
      have hgl := gB.lt
      clear gB hr2'
      cases hls : lsB l[k] x with
      | true =>
        have HZ : Hid (∀ r ∈ l.take (k + 1), lsB r x = true) := hide (by
          rw [List.take_succ_eq_append_getElem hkl]
          intro r hr
          rcases List.mem_append.1 hr with hr | hr
          · exact HI.out r hr
          · rw [List.mem_singleton.1 hr]; exact hls)
        rw [hls] at hcL
        clear hr hr1' HI hls
        generalize l[k] = y at *
        go_wp2_with fail
        refine wp_region_bw wr (Below.refl _ _) (by kernel_rfl) (by kernel_rfl) ?_
        repeat (go_big_quiet_step ((go_at_call 78; exact bw_call (hcL _))))
        refine wpQuiet_nil ?_
        intro w1 hb1
        go_wp2_with fail
        go_roundw
        case rel => exact ⟨k + 1, by omega, by go_num, HZ, hb.trans (hb1.mono hw1)⟩
        case measure => simp [intOf]; omega
      | false =>
        have HP := hide (put_at hkl' HI.out (fun _ => hls))
        rw [hls] at hcL
        clear hls
        have HK := hide hkl
        have HQ : Hid (∀ w1, Below wr.heap.size wr w1 → SlR w1 (w.heap.size + 1) 7 (some ⟨b, off, none⟩) N (l.flatMap cR)) := hide (fun w1 h => hr1'.below (h.mono hw1))
        clear hr hr1'
        generalize l[k] = y at *
        go_wp2_with fail
        refine wp_region_bw wr (Below.refl _ _) (by kernel_rfl) (by kernel_rfl) ?_
        repeat (go_big_quiet_step ((go_at_call 78; exact bw_call (hcL _))))
        refine wpQuiet_nil ?_
        intro W1 hb1
        have hr1' := HQ.out W1 hb1
        have hr := HQ
        clear HQ hcL z0 z1 z2 z3 z4 z5 z6 y0 y1 y2 y3 y4 y5 y6 hd hji hbb hgl
        obtain ⟨A1, hs1, hr1⟩ := hr1'.cutHi hc hk 23 49 i0 Tryz.underlying23 hi
        obtain ⟨A2, hs2, hr2⟩ := hr1'.cutLo hc hk 23 49 i0 Tryz.underlying23 hi hz1
        rw [flatR_take] at hs1
        rw [flatR_drop] at hs2
        have hB1 : Below (w.heap.size + 1) (w.alloc (.cells #[.int .i64 x.pen, .int .i64 x.num, .int .i64 x.at_, .int .i64 x.of, .int .i64 x.which, .int .i64 x.kind, .string x.text] 49)) W1 := hb.trans (hb1.mono hw1)
        have HG : Hid (∀ W, Below (w.heap.size + 1) W1 W → Blk W w.heap.size 49 (cR x)) := hide (fun W h => ((Blk.new w 49 (cR x)).below hB1 (by omega)).below h (by omega))
        have HB : Hid (∀ W, Below (w.heap.size + 1) W1 W → Below w.heap.size w W) := hide (fun W h => bthen (balloc (Below.refl _ _) _) ((hB1.trans h).mono (by simp)))
        have HS1 : Hid (∀ W, Below (w.heap.size + 1) W1 W → SlR W (w.heap.size + 1) 7 A1 k ((l.take k).flatMap cR)) := hide (fun W h => hs1.below h)
        have HS2 : Hid (∀ W, Below (w.heap.size + 1) W1 W → SlR W (w.heap.size + 1) 7 A2 (N - k) ((l.drop k).flatMap cR)) := hide (fun W h => hs2.below h)
        have hW1 : w.heap.size + 1 ≤ W1.heap.size := by have := hB1.size; simpa using this
        have hkc : (k : Int) ≤ (N : Int) := by omega
        clear hb hB1 hr hr1' HI hs1 hs2
        go_wp2_with (first | (at_builtin; refine wpList_append_sl (size := 7) (w0 := W1) (B := w.heap.size + 1) rfl _ _ 23 rfl (w.heap.size + 1) 49 i0 zV 64 Tryz.underlying23 hi hz0 hz1 hz2 rfl (by decide) (.slice none 0 0) 0 [] rfl (World.ownsRow_nil _ _ _ _) k c ((l.take k).flatMap cR) rfl (HS1.out W1 (Below.refl _ _)) (Below.refl _ _) (fun u hu => oneR _ u hu) (by unfold maxLen; omega) (by omega) (by omega) ?_; intro v6 w6 hown6 hgrow6 hor6; rw [Nat.zero_add, List.nil_append] at hown6; have hb6 : Below (w.heap.size + 1) W1 w6 := (Below.refl _ _).grown hgrow6 hW1 (fun j e => by cases e); have hl6 : w.heap.size + 1 ≤ w6.heap.size := (by have := hb6.size; omega); obtain ⟨y0, y1, y2, y3, y4, y5, y6⟩ := (HG.out w6 hb6).allR; have hg0 : w.heap.size < w6.heap.size := (by omega); obtain ⟨Av, cv, rfl, hcv1, hcv2, _⟩ := SlR.of_own hown6; clear hgrow6 hor6; have gA := (Blk.new w6 49 (cR x)).slr (k := 7) (n := 1) rfl; rw [show (w6.alloc (.cells (cR x).toArray 49)).heap.size = w6.heap.size + 1 from by simp] at gA) |
          (at_builtin; refine wpList_append_sl (size := 7) rfl _ _ 23 rfl (w.heap.size + 1) 49 i0 zV 64 Tryz.underlying23 hi hz0 hz1 hz2 rfl (by decide) (.slice Av k cv) k ((l.take k).flatMap cR) rfl (hown6.alloc _) 1 1 (cR x) rfl gA (Below.refl _ _) (fun u hu => oneR [x] u (by simpa using hu)) (by unfold maxLen; omega) (by omega) (by simp; omega) ?_; intro v7 w7 hown7 hgrow7 hor7; have hb7 : Below (w.heap.size + 1) W1 w7 := (hb6.alloc hl6 _).grown hgrow7 (by simp; omega) (own_ge hown6); have hl7 : w.heap.size + 1 ≤ w7.heap.size := (by have := hb7.size; omega); obtain ⟨Aw, cw, rfl, hcw1, hcw2, _⟩ := SlR.of_own hown7; have hsl2 := HS2.out w7 hb7; clear hgrow7 hor7 hown6 y0 y1 y2 y3 y4 y5 y6 gA hb6) |
          (at_builtin; refine wpList_append_sl (size := 7) (w0 := w7) (B := w.heap.size + 1) rfl _ _ 23 rfl (w.heap.size + 1) 49 i0 zV 64 Tryz.underlying23 hi hz0 hz1 hz2 rfl (by decide) (.slice Aw (k + 1) cw) (k + 1) ((l.take k).flatMap cR ++ cR x) rfl hown7 (N - k) (c - k) ((l.drop k).flatMap cR) rfl hsl2 (Below.refl _ _) (fun u hu => oneR _ u hu) (by unfold maxLen; omega) (by omega) (by omega) ?_; intro v8 w8 hown8 hgrow8 hor8; have hb8 : Below (w.heap.size + 1) W1 w8 := hb7.grown hgrow8 hl7 (own_ge hown7); have HO := hide hown8; clear hgrow8 hor8 hown7 hsl2 hown8))
        go_ret
        refine ⟨v8, rfl, ?_, HB.out _ hb8⟩
        have h := own_mono HO.out (Nat.le_succ w.heap.size)
        rw [show k + 1 + (N - k) = N + 1 by omega] at h
        rw [HP.out, List.flatMap_append, List.flatMap_cons]
        rw [List.append_assoc] at h
        exact h
    · have hd : decide (k < N) = false := decide_eq_false hlt
      have hd2 : decide ((k : Int) < (N : Int)) = false := decide_eq_false (by omega)
      have HP := hide (put_at hkl' HI.out (fun h => absurd h (by have := HL.out; omega)))
      obtain ⟨w0, rfl⟩ : ∃ w0, w0 = wr := ⟨_, rfl⟩
      have hw1 : w.heap.size + 1 ≤ w0.heap.size := by have := hb.size; simpa using this
      have HQ : Hid (∀ w1, Below w0.heap.size w0 w1 → SlR w1 (w.heap.size + 1) 7 A N (l.flatMap cR)) := hide (fun w1 h => hr1'.below (h.mono hw1))
      clear hr hr1'
      go_wp2_with fail
      refine wp_region_bw w0 (Below.refl _ _) (by kernel_rfl) (by kernel_rfl) ?_
      repeat (go_big_quiet_step (fail))
      refine wpQuiet_nil ?_
      intro W1 hb1
      have hr1' := HQ.out W1 hb1
      have hr := HQ
      clear HQ hd hd2 hlt
      obtain ⟨A1, hs1, hr1⟩ := hr1'.cutHi hc hk 23 49 i0 Tryz.underlying23 hi
      obtain ⟨A2, hs2, hr2⟩ := hr1'.cutLo hc hk 23 49 i0 Tryz.underlying23 hi hz1
      rw [flatR_take] at hs1
      rw [flatR_drop] at hs2
      have hB1 : Below (w.heap.size + 1) (w.alloc (.cells #[.int .i64 x.pen, .int .i64 x.num, .int .i64 x.at_, .int .i64 x.of, .int .i64 x.which, .int .i64 x.kind, .string x.text] 49)) W1 := hb.trans (hb1.mono hw1)
      have HG : Hid (∀ W, Below (w.heap.size + 1) W1 W → Blk W w.heap.size 49 (cR x)) := hide (fun W h => ((Blk.new w 49 (cR x)).below hB1 (by omega)).below h (by omega))
      have HB : Hid (∀ W, Below (w.heap.size + 1) W1 W → Below w.heap.size w W) := hide (fun W h => bthen (balloc (Below.refl _ _) _) ((hB1.trans h).mono (by simp)))
      have HS1 : Hid (∀ W, Below (w.heap.size + 1) W1 W → SlR W (w.heap.size + 1) 7 A1 k ((l.take k).flatMap cR)) := hide (fun W h => hs1.below h)
      have HS2 : Hid (∀ W, Below (w.heap.size + 1) W1 W → SlR W (w.heap.size + 1) 7 A2 (N - k) ((l.drop k).flatMap cR)) := hide (fun W h => hs2.below h)
      have hW1 : w.heap.size + 1 ≤ W1.heap.size := by have := hB1.size; simpa using this
      have hkc : (k : Int) ≤ (N : Int) := by omega
      clear hb hB1 hr hr1' HI hs1 hs2
      go_wp2_with (first | (at_builtin; refine wpList_append_sl (size := 7) (w0 := W1) (B := w.heap.size + 1) rfl _ _ 23 rfl (w.heap.size + 1) 49 i0 zV 64 Tryz.underlying23 hi hz0 hz1 hz2 rfl (by decide) (.slice none 0 0) 0 [] rfl (World.ownsRow_nil _ _ _ _) k c ((l.take k).flatMap cR) rfl (HS1.out W1 (Below.refl _ _)) (Below.refl _ _) (fun u hu => oneR _ u hu) (by unfold maxLen; omega) (by omega) (by omega) ?_; intro v6 w6 hown6 hgrow6 hor6; rw [Nat.zero_add, List.nil_append] at hown6; have hb6 : Below (w.heap.size + 1) W1 w6 := (Below.refl _ _).grown hgrow6 hW1 (fun j e => by cases e); have hl6 : w.heap.size + 1 ≤ w6.heap.size := (by have := hb6.size; omega); obtain ⟨y0, y1, y2, y3, y4, y5, y6⟩ := (HG.out w6 hb6).allR; have hg0 : w.heap.size < w6.heap.size := (by omega); obtain ⟨Av, cv, rfl, hcv1, hcv2, _⟩ := SlR.of_own hown6; clear hgrow6 hor6; have gA := (Blk.new w6 49 (cR x)).slr (k := 7) (n := 1) rfl; rw [show (w6.alloc (.cells (cR x).toArray 49)).heap.size = w6.heap.size + 1 from by simp] at gA) |
        (at_builtin; refine wpList_append_sl (size := 7) rfl _ _ 23 rfl (w.heap.size + 1) 49 i0 zV 64 Tryz.underlying23 hi hz0 hz1 hz2 rfl (by decide) (.slice Av k cv) k ((l.take k).flatMap cR) rfl (hown6.alloc _) 1 1 (cR x) rfl gA (Below.refl _ _) (fun u hu => oneR [x] u (by simpa using hu)) (by unfold maxLen; omega) (by omega) (by simp; omega) ?_; intro v7 w7 hown7 hgrow7 hor7; have hb7 : Below (w.heap.size + 1) W1 w7 := (hb6.alloc hl6 _).grown hgrow7 (by simp; omega) (own_ge hown6); have hl7 : w.heap.size + 1 ≤ w7.heap.size := (by have := hb7.size; omega); obtain ⟨Aw, cw, rfl, hcw1, hcw2, _⟩ := SlR.of_own hown7; have hsl2 := HS2.out w7 hb7; clear hgrow7 hor7 hown6 y0 y1 y2 y3 y4 y5 y6 gA hb6) |
        (at_builtin; refine wpList_append_sl (size := 7) (w0 := w7) (B := w.heap.size + 1) rfl _ _ 23 rfl (w.heap.size + 1) 49 i0 zV 64 Tryz.underlying23 hi hz0 hz1 hz2 rfl (by decide) (.slice Aw (k + 1) cw) (k + 1) ((l.take k).flatMap cR ++ cR x) rfl hown7 (N - k) (c - k) ((l.drop k).flatMap cR) rfl hsl2 (Below.refl _ _) (fun u hu => oneR _ u hu) (by unfold maxLen; omega) (by omega) (by omega) ?_; intro v8 w8 hown8 hgrow8 hor8; have hb8 : Below (w.heap.size + 1) W1 w8 := hb7.grown hgrow8 hl7 (own_ge hown7); have HO := hide hown8; clear hgrow8 hor8 hown7 hsl2 hown8))
      go_ret
      refine ⟨v8, rfl, ?_, HB.out _ hb8⟩
      have h := own_mono HO.out (Nat.le_succ w.heap.size)
      rw [show k + 1 + (N - k) = N + 1 by omega] at h
      rw [HP.out, List.flatMap_append, List.flatMap_cons]
      rw [List.append_assoc] at h
      exact h
end Go.Proofs.YtcfbgelhggapjaaGreatDoor
/- Plain words on what the reference's Made returns: three lists that agree with each other. No program here. -/
namespace Go.Proofs.YtcfbgelhggapjaaGreatDoor
/-- an arbitrary integer as an index -/
def pk (c n : Int) : Int := if c < 0 then (-(c + 1)) % n else c % n
theorem pk_range (c n : Int) (hn : 1 ≤ n) : 0 ≤ pk c n ∧ pk c n < n := by
  unfold pk
  split
  · exact ⟨Int.emod_nonneg _ (by omega), Int.emod_lt_of_pos _ (by omega)⟩
  · exact ⟨Int.emod_nonneg _ (by omega), Int.emod_lt_of_pos _ (by omega)⟩
def pkN (c : Int) (n : Nat) : Nat := (pk c n).toNat
theorem pkN_lt (c : Int) (n : Nat) (hn : 0 < n) : pkN c n < n := by
  have := pk_range c n (by omega)
  unfold pkN; omega
theorem pk_N (c : Int) (n : Nat) (hn : 0 < n) : pk c n = (pkN c n : Int) := by
  have := pk_range c n (by omega)
  unfold pkN; omega
def corM (p : Int) (l : List Rc) (x : Rc) : Option (List Rc) := if x.of = -1 ∧ x.which = 0 then none else addM p l x
def wdL : List ByteArray := [⟨#[119, 104, 111, 108, 101]⟩, ⟨#[99, 114, 97, 99, 107, 101, 100]⟩, ⟨#[115, 116, 97, 105, 110, 101, 100]⟩, ⟨#[]⟩, ⟨#[108, 101, 110, 116]⟩]
/-- the time of a pen's next record -/
def atL (k d : Int) (l : List Rc) : Int := l.foldl (fun a r => if r.pen = k then max a (r.at_ + d) else a) d
theorem atL_snoc (k d : Int) (l : List Rc) (r : Rc) : atL k d (l ++ [r]) = if r.pen = k then max (atL k d l) (r.at_ + d) else atL k d l := by
  unfold atL; rw [List.foldl_append]; rfl
theorem atL_spec (k d m : Int) (_ : 0 ≤ d) : ∀ (l : List Rc), (∀ r ∈ l, r.at_ ≤ m) → 0 ≤ m → d ≤ atL k d l ∧ atL k d l ≤ m + d := by
  intro l
  have key : ∀ (l : List Rc) (a : Int), (∀ r ∈ l, r.at_ ≤ m) → a ≤ m + d → a ≤ l.foldl (fun a r => if r.pen = k then max a (r.at_ + d) else a) a ∧ l.foldl (fun a r => if r.pen = k then max a (r.at_ + d) else a) a ≤ m + d := by
    intro l
    induction l with
    | nil => intro a _ h; exact ⟨Int.le_refl _, h⟩
    | cons x l ih =>
      intro a hl ha
      have hx := hl x (.head _)
      have := ih (if x.pen = k then max a (x.at_ + d) else a) (fun r hr => hl r (.tail _ hr)) (by split <;> omega)
      simp only [List.foldl_cons]
      refine ⟨?_, this.2⟩
      have h1 := this.1
      split at h1
      · rename_i h; rw [if_pos h]; omega
      · rename_i h; rw [if_neg h]; exact h1
  intro hl hm
  exact key l d hl (by omega)
/-- one thing that happens -/
def stpM (L : List (List Rc)) (x : I4) : List (List Rc) :=
  let k := pkN x.2.1 3
  let l := L[k]!
  let at_ := atL k (pk x.2.2.2 4) l
  match pkN x.1 3 with
  | 0 => match addM k l ⟨0, 0, at_, -1, 0, pk x.2.2.1 16, wdL[pkN (x.2.2.1.tdiv 16) 5]!⟩ with
    | some m => L.set k m
    | none => L
  | 1 => if l.length = 0 then L else
    let o := l[pkN x.2.2.1 l.length]!
    match corM k l ⟨0, 0, max at_ (o.at_ + 1), o.pen, o.num, pk x.2.2.2 16, wdL[pkN x.2.2.2 5]!⟩ with
    | some m => L.set k m
    | none => L
  | _ => let j := (k + 1 + pkN x.2.2.1 2) % 3
    match mrgM k l j (L[j]!) with
    | some m => L.set k m
    | none => L
def madL (xs : List I4) : List (List Rc) := (xs.take 24).foldl stpM [[], [], []]
/-- lists that agree: all records, by the pen that made them, lie in G -/
structure MI (n : Nat) (G : List Rc) (L : List (List Rc)) : Prop where
  len : L.length = 3
  nd : (G.map keyR).Nodup
  few : G.length ≤ n
  vl : ∀ k, k < 3 → VL L[k]!
  sub : ∀ k, k < 3 → ∀ r ∈ L[k]!, r ∈ G
  own : ∀ k : Nat, k < 3 → ∀ r ∈ G, r.pen = k → r ∈ L[k]!
  at_ : ∀ r ∈ G, r.at_ ≤ 4 * n
theorem nd_len : ∀ (l G : List Rc), l.Nodup → (∀ r ∈ l, r ∈ G) → l.length ≤ G.length
  | [], G, _, _ => Nat.zero_le _
  | x :: l, G, h, hs => by
    have hx := hs x (.head _)
    rw [List.nodup_cons] at h
    have ih := nd_len l (G.erase x) h.2 (fun r hr => (List.mem_erase_of_ne (fun e => h.1 (by rw [← e]; exact hr))).2 (hs r (.tail _ hr)))
    rw [List.length_erase_of_mem hx] at ih
    have := List.length_pos_of_mem hx
    simp only [List.length_cons]
    omega
theorem nd_of_key {l : List Rc} (h : (l.map keyR).Nodup) : l.Nodup := List.Pairwise.of_map keyR (fun _ _ h e => h (congrArg keyR e)) h
theorem MI.lenk {n : Nat} {G : List Rc} {L : List (List Rc)} (h : MI n G L) {k : Nat} (hk : k < 3) : (L[k]!).length ≤ n :=
  Nat.le_trans (nd_len _ G (nd_of_key (h.vl k hk).nd) (h.sub k hk)) h.few
theorem vl_nil : VL [] := ⟨.nil, by simp, by simp, by simp, by simp⟩
theorem MI.zero : MI 0 [] [[], [], []] := by
  refine ⟨rfl, by simp, by simp, fun k hk => ?_, fun k hk r hr => ?_, by simp, by simp⟩
  · match k, hk with
    | 0, _ | 1, _ | 2, _ => exact vl_nil
  · match k, hk with
    | 0, _ | 1, _ | 2, _ => cases hr
theorem MI.more {n m : Nat} {G : List Rc} {L : List (List Rc)} (h : MI n G L) (hm : n ≤ m) : MI m G L :=
  ⟨h.len, h.nd, by have := h.few; omega, h.vl, h.sub, h.own, fun r hr => by have := h.at_ r hr; omega⟩
theorem set_get {L : List (List Rc)} {k j : Nat} {m : List Rc} (hk : k < L.length) : (L.set k m)[j]! = if j = k then m else L[j]! := by
  by_cases h : j = k
  · subst h; rw [if_pos rfl]; simp [hk]
  · rw [if_neg h]
    simp only [List.getElem!_eq_getElem?_getD, List.getElem?_set]
    rw [if_neg (fun e => h e.symm)]
theorem add_some {p : Int} {l m : List Rc} {x : Rc} (h : addM p l x = some m) : vrB p l = true ∧ m = putL l (newx p l x) ∧ vrB p m = true := by
  unfold addM at h
  split at h
  · rename_i h1
    split at h
    · rename_i h2
      simp only [Option.some.injEq] at h
      subst h
      exact ⟨h1, rfl, h2⟩
    · cases h
  · cases h
theorem newx_key (p : Int) (l : List Rc) (x : Rc) : keyR (newx p l x) = (p, (cntP p l : Int) + 1) := rfl
theorem MI.add {n : Nat} {G : List Rc} {L : List (List Rc)} (h : MI n G L) {k : Nat} (hk : k < 3) {x : Rc} {m : List Rc} (hm : addM k L[k]! x = some m) (ha : x.at_ ≤ 4 * (n + 1 : Nat)) : MI (n + 1) (newx k L[k]! x :: G) (L.set k m) := by
  obtain ⟨h1, h2, h3⟩ := add_some hm
  have hv := (vr_iff.1 h3).2.2
  have hkl : k < L.length := by rw [h.len]; exact hk
  have hfree := (h.vl k hk).free k
  refine ⟨by rw [List.length_set, h.len], ?_, by have := h.few; simp only [List.length_cons]; omega, fun j hj => ?_, fun j hj r hr => ?_, fun j hj r hr hp => ?_, fun r hr => ?_⟩
  · rw [List.map_cons, List.nodup_cons]
    refine ⟨fun hmem => ?_, h.nd⟩
    obtain ⟨r, hr, e⟩ := List.mem_map.1 hmem
    rw [newx_key] at e
    have hp : r.pen = k := congrArg Prod.fst e
    exact hfree r (h.own k hk r hr hp) e
  · rw [set_get hkl]
    split
    · exact hv
    · exact h.vl j hj
  · rw [set_get hkl] at hr
    split at hr
    · rw [h2] at hr
      rcases mem_putL.1 hr with rfl | hr
      · exact .head _
      · exact .tail _ (h.sub k hk r hr)
    · exact .tail _ (h.sub j hj r hr)
  · rw [set_get hkl]
    rcases List.mem_cons.1 hr with rfl | hr
    · have hp' : (k : Int) = j := hp
      have : j = k := by omega
      rw [if_pos this, h2]
      exact mem_putL.2 (.inl rfl)
    · have := h.own j hj r hr hp
      split
      · rename_i e; subst e; rw [h2]; exact mem_putL.2 (.inr this)
      · exact this
  · rcases List.mem_cons.1 hr with rfl | hr
    · exact ha
    · have := h.at_ r hr; omega
theorem mrg_some {p q : Int} {a b m : List Rc} (h : mrgM p a q b = some m) : mgOk p a q b = true ∧ m = mgL a b := by
  unfold mrgM at h
  split at h
  · rename_i h1
    simp only [Option.some.injEq] at h
    exact ⟨h1, h.symm⟩
  · cases h
theorem mgOk_iff {p q : Int} {a b : List Rc} : mgOk p a q b = true ↔ vrB p a = true ∧ vrB q b = true ∧ conB a b = false ∧ a.length + (newL a b).length ≤ 150 := by
  simp [mgOk]
theorem MI.mrg {n : Nat} {G : List Rc} {L : List (List Rc)} (h : MI n G L) {k j : Nat} (hk : k < 3) (hj : j < 3) {m : List Rc} (hm : mrgM k L[k]! j L[j]! = some m) : MI n G (L.set k m) := by
  obtain ⟨h1, h2⟩ := mrg_some hm
  obtain ⟨_, _, h3, _⟩ := mgOk_iff.1 h1
  obtain ⟨_, s2, _, s4⟩ := mg_spec (h.vl k hk) (h.vl j hj) h3
  have hkl : k < L.length := by rw [h.len]; exact hk
  refine ⟨by rw [List.length_set, h.len], h.nd, h.few, fun i hi => ?_, fun i hi r hr => ?_, fun i hi r hr hp => ?_, h.at_⟩
  · rw [set_get hkl]
    split
    · rw [h2]; exact s4
    · exact h.vl i hi
  · rw [set_get hkl] at hr
    split at hr
    · rw [h2] at hr
      rcases (s2 r).1 hr with hr | hr
      · exact h.sub k hk r hr
      · exact h.sub j hj r hr
    · exact h.sub i hi r hr
  · have := h.own i hi r hr hp
    rw [set_get hkl]
    split
    · rename_i e; subst e; rw [h2]; exact (s2 r).2 (.inl this)
    · exact this
theorem cor_some {p : Int} {l m : List Rc} {x : Rc} (h : corM p l x = some m) : addM p l x = some m := by
  unfold corM at h
  split at h
  · cases h
  · exact h
theorem get_mem! {l : List Rc} {i : Nat} (h : i < l.length) : l[i]! ∈ l := by
  rw [bang h]; exact List.getElem_mem h
theorem MI.stp {n : Nat} {G : List Rc} {L : List (List Rc)} (h : MI n G L) (x : I4) : ∃ G', MI (n + 1) G' (stpM L x) := by
  have hk := pkN_lt x.2.1 3 (by decide)
  have hd := pk_range x.2.2.2 4 (by decide)
  have hat := atL_spec (pkN x.2.1 3) (pk x.2.2.2 4) (4 * n) hd.1 L[pkN x.2.1 3]! (fun r hr => h.at_ r (h.sub _ hk r hr)) (by omega)
  have h' := h.more (Nat.le_succ n)
  unfold stpM
  dsimp only
  split
  · split
    · rename_i m hm
      exact ⟨_, h.add hk hm (by dsimp only; omega)⟩
    · exact ⟨G, h'⟩
  · split
    · exact ⟨G, h'⟩
    · rename_i hl
      split
      · rename_i m hm
        have hlt := pkN_lt x.2.2.1 _ (Nat.pos_of_ne_zero hl)
        have ho := h.at_ _ (h.sub _ hk _ (get_mem! hlt))
        exact ⟨_, h.add hk (cor_some hm) (by dsimp only; omega)⟩
      · exact ⟨G, h'⟩
  · split
    · rename_i m hm
      exact ⟨G, (h.mrg hk (Nat.mod_lt _ (by decide)) hm).more (Nat.le_succ n)⟩
    · exact ⟨G, h'⟩
theorem MI.fold : ∀ (xs : List I4) (n : Nat) (G : List Rc) (L : List (List Rc)), MI n G L → ∃ G', MI (n + xs.length) G' (xs.foldl stpM L)
  | [], n, G, L, h => ⟨G, h⟩
  | x :: xs, n, G, L, h => by
    obtain ⟨G1, h1⟩ := h.stp x
    obtain ⟨G2, h2⟩ := MI.fold xs (n + 1) G1 _ h1
    exact ⟨G2, by rw [List.foldl_cons, List.length_cons, show n + (xs.length + 1) = n + 1 + xs.length by omega]; exact h2⟩
theorem mad_inv (xs : List I4) : ∃ G, MI 24 G (madL xs) := by
  obtain ⟨G, h⟩ := MI.fold (xs.take 24) 0 [] _ MI.zero
  exact ⟨G, h.more (by rw [List.length_take]; omega)⟩
theorem madL_snoc (xs : List I4) (k : Nat) (hk : k < xs.length) : (xs.take (k + 1)).foldl stpM [[], [], []] = stpM ((xs.take k).foldl stpM [[], [], []]) xs[k] := by
  rw [List.take_succ_eq_append_getElem hk, List.foldl_append]; rfl
theorem MI.vr {n : Nat} {G : List Rc} {L : List (List Rc)} (h : MI n G L) (hn : n ≤ 150) {k : Nat} (hk : k < 3) : vrB k L[k]! = true :=
  vr_iff.2 ⟨by omega, by have := h.lenk hk; omega, h.vl k hk⟩
end Go.Proofs.YtcfbgelhggapjaaGreatDoor
/- Replica: the reference's own, Add, Correct, New. -/
namespace Go.Proofs.YtcfbgelhggapjaaGreatDoor
open Go.RowKit Go.Shelf
/-- a slice that reads as a list of cells, in a block from lo on -/
def SlN (w : World) (lo k : Nat) (A : Option Addr) (n : Nat) (xs : List Value) : Prop := SlR w w.heap.size k A n xs ∧ (0 < n → ∀ a, A = some a → lo ≤ a.block)
theorem cell_same {w w' : World} {p : Addr} (h : w'.heap[p.block]? = w.heap[p.block]?) : w'.cell? p = w.cell? p := by unfold World.cell?; rw [h]
theorem SlN.set {w : World} {lo k n : Nat} {A : Option Addr} {xs : List Value} (h : SlN w lo k A n xs) (p : Addr) (hp : p.block < lo) (u : Value) : SlN (w.setCell p u) lo k A n xs := by
  obtain ⟨⟨h1, h2⟩, h3⟩ := h
  refine ⟨⟨h1, fun hn => ?_⟩, h3⟩
  obtain ⟨b, off, rfl, hb, hc⟩ := h2 hn
  have := h3 hn _ rfl
  simp only at this
  refine ⟨b, off, rfl, by simpa using hb, fun j v hv => ?_⟩
  rw [cell_same (Below.heap_setCell w p u b (by omega))]
  exact hc j v hv
theorem SlN.mono {w : World} {lo lo' k n : Nat} {A : Option Addr} {xs : List Value} (h : SlN w lo k A n xs) (hl : lo' ≤ lo) : SlN w lo' k A n xs := ⟨h.1, fun hn a e => Nat.le_trans hl (h.2 hn a e)⟩
theorem SlN.to {w w' : World} {lo k n : Nat} {A : Option Addr} {xs : List Value} (h : SlN w lo k A n xs) (hb : Below w.heap.size w w') : SlN w' lo k A n xs := ⟨h.1.to' hb, h.2⟩
theorem SlN.nil {w : World} {lo k : Nat} {A : Option Addr} : SlN w lo k A 0 [] := ⟨SlR.nil, fun h => absurd h (by omega)⟩
theorem own_sln {W : World} {b : Nat} {e : TypeId} {k n c : Nat} {A : Option Addr} {xs : List Value} (h : W.ownsRow b e k (.slice A n c) n xs) : SlN W b k A n xs := by
  obtain ⟨A', c', e', _, _, h3⟩ := SlR.of_own h
  cases e'
  refine ⟨h3, fun hn a ea => ?_⟩
  subst ea
  rcases h.2 with ⟨h1, _⟩ | ⟨g, cap, cur, h1, h2, _⟩
  · cases h1
  · cases h1; exact h2
/-- the answer: a replica, or an error -/
def RepPost (q : Int) (o : Option (List Rc)) (w : World) (e : Ending) (w' : World) : Prop :=
  Below w.heap.size w w' ∧ ((o = none ∧ e = .returned (.tuple #[rpV 0 none 0 0, .int .i64 350])) ∨
    ∃ m A c, o = some m ∧ e = .returned (.tuple #[rpV q A m.length c, .int .i64 0]) ∧ m.length ≤ c ∧ c ≤ 9223372036854775807 ∧ SlN w' w.heap.size 7 A m.length (m.flatMap cR))
theorem find_cnt {l : List Rc} (h : VL l) (p : Int) (k : Nat) : (k < cntP p l → ∃ i : Nat, fdI (p, (k : Int) + 1) l = i) ∧ (k = cntP p l → fdI (p, (k : Int) + 1) l = -1) := by
  constructor
  · intro hk
    obtain ⟨r, hr, h1, h2⟩ := (h.nums p ((k : Int) + 1)).2 ⟨by omega, by omega⟩
    rcases fdI_cases (p, (k : Int) + 1) l with ⟨g1, g2⟩ | ⟨i, hi, _, _, g⟩
    · exact absurd (by rw [keyR, h1, h2]) (fd_none.1 g1 r hr)
    · exact ⟨i, g⟩
  · intro hk
    rcases fdI_cases (p, (k : Int) + 1) l with ⟨g1, g2⟩ | ⟨i, hi, g1, _, _⟩
    · exact g2
    · have := (h.nums p ((k : Int) + 1)).1 ⟨l[i], List.getElem_mem hi, congrArg Prod.fst g1, congrArg Prod.snd g1⟩
      omega
theorem cntP_le (p : Int) (l : List Rc) : cntP p l ≤ l.length := List.countP_le_length
theorem Blk.frR {w : World} {g : Nat} {t : TypeId} {cs : List Value} (h : Blk w g t cs) : w.frozen? ⟨g, 0, none⟩ = false ∧ w.frozen? ⟨g, 1, none⟩ = false := ⟨h.free 0, h.free 1⟩
theorem own_set {W : World} {b : Nat} {e : TypeId} {k n : Nat} {v : Value} {xs : List Value} (h : W.ownsRow b e k v n xs) (p : Addr) (hp : p.block < b) (u : Value) : (W.setCell p u).ownsRow b e k v n xs := by
  refine ⟨h.1, ?_⟩
  rcases h.2 with h | ⟨g, c', cur, q1, q2, q3, q4⟩
  · exact .inl h
  · exact .inr ⟨g, c', cur, q1, q2, (Below.heap_setCell W p u g (by omega)).trans q3, q4⟩
theorem own_to {W W' : World} {b : Nat} {e : TypeId} {k n : Nat} {v : Value} {xs : List Value} (h : W.ownsRow b e k v n xs) (hb : Below W.heap.size W W') : W'.ownsRow b e k v n xs := by
  refine ⟨h.1, ?_⟩
  rcases h.2 with h | ⟨g, c', cur, q1, q2, q3, q4⟩
  · exact .inl h
  · exact .inr ⟨g, c', cur, q1, q2, (hb.block g (Array.getElem?_eq_some_iff.1 q3).1).trans q3, q4⟩
theorem own_row {W : World} {base : Nat} {e : TypeId} {k n c : Nat} {A : Option Addr} {xs : List Value} (h : W.ownsRow base e k (.slice A n c) n xs) : n ≤ c ∧ c ≤ maxLen ∧ SlR W W.heap.size k A n xs := by
  obtain ⟨A', c', e, h1, h2, h3⟩ := SlR.of_own h
  cases e
  exact ⟨h1, h2, h3⟩
def OwCut (W0 : World) (p : Int) (m : List Rc) (v : Value) (wx : World) : Prop :=
  ∃ b A c, v = .pointer (some ⟨b, 0, none⟩) ∧ m.length ≤ c ∧ c ≤ 9223372036854775807 ∧ W0.heap.size ≤ b ∧ Blk wx b 25 [.int .i64 p, .slice A m.length c] ∧ wx.ownsRow W0.heap.size 49 7 (.slice A m.length c) m.length (m.flatMap cR) ∧ Below W0.heap.size W0 wx
set_option maxRecDepth 100000 in
set_option maxHeartbeats 8000000 in
theorem c_rown (p : Int) (A : Option Addr) (N c : Nat) (l : List Rc) (x : Rc) (w : World) (hnc : N ≤ c) (hc : c ≤ 9223372036854775807) (hr : SlR w w.heap.size 7 A N (l.flatMap cR)) :
    Calls Tryz.prog 58 #[rpV p A N c, rcV x] w (RepPost p (addM p l x) w) := by
  have hb0 := balloc (balloc (balloc (Below.refl w.heap.size w) (.cells #[.int .i64 p, .slice A N c] 25)) (.cells #[.int .i64 x.pen, .int .i64 x.num, .int .i64 x.at_, .int .i64 x.of, .int .i64 x.which, .int .i64 x.kind, .string x.text] 49)) (.cells #[.int .i64 0, .slice none 0 0] 25)
  obtain ⟨w0, hw0⟩ : ∃ w0, ((w.alloc (.cells #[.int .i64 p, .slice A N c] 25)).alloc (.cells #[.int .i64 x.pen, .int .i64 x.num, .int .i64 x.at_, .int .i64 x.of, .int .i64 x.which, .int .i64 x.kind, .string x.text] 49)).alloc (.cells #[.int .i64 0, .slice none 0 0] 25) = w0 := ⟨_, rfl⟩
  have gR : Blk w0 w.heap.size 25 [.int .i64 p, .slice A N c] := by rw [← hw0]; exact ((Blk.new w 25 [.int .i64 p, .slice A N c]).alloc _).alloc _
  have gX : Blk w0 (w.heap.size + 1) 49 (cR x) := by
    rw [← hw0]
    have := Blk.new (w.alloc (.cells #[.int .i64 p, .slice A N c] 25)) 49 (cR x)
    rw [show (w.alloc (.cells #[.int .i64 p, .slice A N c] 25)).heap.size = w.heap.size + 1 from by simp] at this
    exact this.alloc _
  have gZ : Blk w0 (w.heap.size + 1 + 1) 25 [.int .i64 0, .slice none 0 0] := by
    rw [← hw0]
    have := Blk.new ((w.alloc (.cells #[.int .i64 p, .slice A N c] 25)).alloc (.cells #[.int .i64 x.pen, .int .i64 x.num, .int .i64 x.at_, .int .i64 x.of, .int .i64 x.which, .int .i64 x.kind, .string x.text] 49)) 25 [.int .i64 0, .slice none 0 0]
    rw [show ((w.alloc (.cells #[.int .i64 p, .slice A N c] 25)).alloc (.cells #[.int .i64 x.pen, .int .i64 x.num, .int .i64 x.at_, .int .i64 x.of, .int .i64 x.which, .int .i64 x.kind, .string x.text] 49)).heap.size = w.heap.size + 1 + 1 from by simp] at this
    exact this
  rw [hw0] at hb0
  have HW0 := hide hw0
  have HL := hide hr.lenR
  have hk0 := c_rValid p A N c l w0 (hr.to' hb0) (by omega)
  have HR : Hid (∀ W, Below w.heap.size w W → SlR W W.heap.size 7 A N (l.flatMap cR)) := hide (fun W h => hr.to' h)
  have hzR := gZ.lt
  have HG := hide (And.intro gR (And.intro gX gZ))
  clear hr hw0 gX gR gZ
  unfold rpV rcV
  go_enter Tryz.func58, Tryz.ntmps58
  go_wp2_with fail
  rw [HW0.out]
  refine hk0.mono ?_
  clear hk0
  rintro e w1 ⟨rfl, hb1⟩
  obtain ⟨r0, r1, _, _⟩ := (HG.out.1.below hb1 HG.out.1.lt).all2
  obtain ⟨z0, z1, z2, z3⟩ := (HG.out.2.2.below hb1 HG.out.2.2.lt).all2
  have hz1 := (HG.out.2.2.below hb1 HG.out.2.2.lt).lt
  cases hV : vrB p l with
  | false =>
    have HE := hide (show addM p l x = none by unfold addM; rw [hV]; rfl)
    clear hV
    go_wp2
    exact bodyPost_ret (v := .tuple #[.agg #[.int .i64 0, .slice none 0 0], .int .i64 350]) (by simp [results, Tryz.results58, go_sem, z0, z1]) rfl ⟨((bthen hb0 hb1).setCell (by simp; omega) _).setCell (by simp; omega) _, .inl ⟨HE.out, rfl⟩⟩
  | true =>
    have HVL := hide (vr_iff.1 hV).2.2
    have hl150 := (vr_iff.1 hV).2.1
    have HE := hide (show addM p l x = if vrB p (putL l (newx p l x)) then some (putL l (newx p l x)) else none by unfold addM; rw [hV]; rfl)
    clear hV
    have hN150 : N ≤ 150 := by have := HL.out; omega
    have hxc := (HG.out.2.1.below hb1 HG.out.2.1.lt)
    obtain ⟨x0, x1, x2, x3, x4, x5, x6⟩ := hxc.allR
    obtain ⟨xf0, xf1⟩ := hxc.frR
    have H1 := hide (And.intro (HG.out.1.below hb1 HG.out.1.lt) (And.intro hxc (And.intro (HG.out.2.2.below hb1 HG.out.2.2.lt) (bthen hb0 hb1))))
    clear hxc hb0 hb1 hzR HG HW0 z0 z1 z2 z3
    go_wp2_with fail
    go_loopg [15] (cntP p l) (fun kx _ wr => ∃ k : Nat, k ≤ cntP p l ∧ cntP p l - k ≤ kx ∧ Blk wr w.heap.size 25 [.int .i64 p, .slice A N c] ∧ Blk wr (w.heap.size + 1) 49 (cR { x with pen := p, num := (k : Int) + 1 }) ∧ Blk wr (w.heap.size + 1 + 1) 25 [.int .i64 0, .slice none 0 0] ∧ Below w.heap.size w wr)
    case atStart =>
      obtain ⟨q1, q2, q3, q4⟩ := H1.out
      refine ⟨0, Nat.zero_le _, Nat.le_refl _, (q1.other (by simp) _).other (by simp) _, (q2.set 0 (.int .i64 p)).set 1 (.int .i64 1), (q3.other (by simp) _).other (by simp) _, bset (bset q4 (by simp) _) (by simp) _⟩
    case round =>
      clear H1 r0 r1 x0 x1 x2 x3 x4 x5 x6 xf0 xf1 hz1
      obtain ⟨k, hk, hkx, gR, gX, gZ, hb⟩ := hrel
      obtain ⟨r0, r1, _, _⟩ := gR.all2
      obtain ⟨x0, x1, x2, x3, x4, x5, x6⟩ := gX.allR
      obtain ⟨xf0, xf1⟩ := gX.frR
      dsimp only at x0 x1 x2 x3 x4 x5 x6
      have hgl := gZ.lt
      have hcF := c_rFind A N c l p ((k : Int) + 1) wr (by omega) (HR.out wr hb)
      have hk150 : (k : Int) ≤ 150 := by have := cntP_le p l; omega
      obtain ⟨f1, f2⟩ := find_cnt HVL.out p k
      have H1 := hide (And.intro gR (And.intro gX (And.intro gZ hb)))
      clear gR gX gZ hb
      by_cases hlt : k < cntP p l
      · obtain ⟨i, hi⟩ := f1 hlt
        rw [hi] at hcF
        have HK := hide hlt
        clear f1 f2 hi hlt
        go_wp2_with (go_at_call 38; refine hcF.mono ?_; clear hcF; rintro e w2 ⟨rfl, rfl⟩)
        go_roundg (cntP p l - (k + 1))
        case measure => have := HK.out; omega
        case rel =>
          obtain ⟨q1, q2, q3, q4⟩ := H1.out
          exact ⟨k + 1, HK.out, Nat.le_refl _, q1.other (by simp) _, by simpa [cR] using q2.set 1 (.int .i64 ((k : Int) + 1 + 1)), q3.other (by simp) _, bset q4 (by simp) _⟩
      · have hkc : k = cntP p l := by omega
        rw [f2 hkc] at hcF
        have HX := hide (show ({ x with pen := p, num := (k : Int) + 1 } : Rc) = newx p l x by rw [hkc]; rfl)
        clear f1 f2 hlt hkc hk hkx
        go_upto_region 7 with (go_at_call 38; refine hcF.mono ?_; clear hcF; rintro e w2 ⟨rfl, rfl⟩)
        have hpe : putL l ({ x with pen := p, num := (k : Int) + 1 } : Rc) = putL l (newx p l x) := by rw [HX.out]
        have hcP : ∀ (W : World), Below wr.heap.size wr W → Calls Tryz.prog 64 #[.slice A N c, .agg #[.int .i64 p, .int .i64 ((k : Int) + 1), .int .i64 x.at_, .int .i64 x.of, .int .i64 x.which, .int .i64 x.kind, .string x.text]] W fun e w' => ∃ v, e = .returned v ∧ w'.ownsRow W.heap.size 49 7 v (N + 1) ((putL l (newx p l x)).flatMap cR) ∧ Below W.heap.size W w' := fun (W : World) (h : Below wr.heap.size wr W) => by
          have := c_rput A N c l ({ x with pen := p, num := (k : Int) + 1 } : Rc) W (by omega) hnc (HR.out W (bthen H1.out.2.2.2 h))
          rw [hpe] at this
          exact this
        have H2 : Hid (∀ W, Below wr.heap.size wr W → (W.cell? ⟨w.heap.size, 0, none⟩ = some (.int .i64 p) ∧ W.cell? ⟨w.heap.size, 1, none⟩ = some (.slice A N c) ∧ W.cell? ⟨w.heap.size + 1, 0, none⟩ = some (.int .i64 p) ∧ W.cell? ⟨w.heap.size + 1, 1, none⟩ = some (.int .i64 ((k : Int) + 1)) ∧ W.cell? ⟨w.heap.size + 1, 2, none⟩ = some (.int .i64 x.at_) ∧ W.cell? ⟨w.heap.size + 1, 3, none⟩ = some (.int .i64 x.of) ∧ W.cell? ⟨w.heap.size + 1, 4, none⟩ = some (.int .i64 x.which) ∧ W.cell? ⟨w.heap.size + 1, 5, none⟩ = some (.int .i64 x.kind) ∧ W.cell? ⟨w.heap.size + 1, 6, none⟩ = some (.string x.text) ∧ Below wr.heap.size wr W)) := hide (fun W h => by
          obtain ⟨q1, q2, q3, q4⟩ := H1.out
          obtain ⟨a0, a1, _, _⟩ := (q1.below h q1.lt).all2
          obtain ⟨b0, b1, b2, b3, b4, b5, b6⟩ := (q2.below h q2.lt).allR
          exact ⟨a0, a1, b0, b1, b2, b3, b4, b5, b6, h⟩)
        have HCP := hide hcP
        have hlN : (putL l (newx p l x)).length = N + 1 := by rw [len_putL]; have := HL.out; omega
        clear hcP hpe r0 r1 x0 x1 x2 x3 x4 x5 x6 xf0 xf1
        generalize hm : putL l (newx p l x) = m at *
        have HM := hide hm
        clear hm
        go_cut [6] from 27 to 33 (fun v wx => OwCut wr p m v wx)
        case first =>
          go_region_held3 (fun W => W.cell? ⟨w.heap.size, 0, none⟩ = some (.int .i64 p) ∧ W.cell? ⟨w.heap.size, 1, none⟩ = some (.slice A N c) ∧ W.cell? ⟨w.heap.size + 1, 0, none⟩ = some (.int .i64 p) ∧ W.cell? ⟨w.heap.size + 1, 1, none⟩ = some (.int .i64 ((k : Int) + 1)) ∧ W.cell? ⟨w.heap.size + 1, 2, none⟩ = some (.int .i64 x.at_) ∧ W.cell? ⟨w.heap.size + 1, 3, none⟩ = some (.int .i64 x.of) ∧ W.cell? ⟨w.heap.size + 1, 4, none⟩ = some (.int .i64 x.which) ∧ W.cell? ⟨w.heap.size + 1, 5, none⟩ = some (.int .i64 x.kind) ∧ W.cell? ⟨w.heap.size + 1, 6, none⟩ = some (.string x.text) ∧ Below wr.heap.size wr W)
            (first | exact H2.out _ (by assumption) | exact H2.out _ (bdrew (Below.refl _ _)) | exact H2.out _ h8 | exact H2.out _ (balloc h8 _) | exact H2.out _ (bset (bset h8 (Nat.le_refl _) _) (Nat.le_refl _) _) | (go_split_ands; first | exact H2.out _ (by assumption) | exact H2.out _ (bthen (by assumption) (by assumption)) | exact H2.out _ (balloc (by assumption) _) | exact H2.out _ (bdrew (balloc (Below.refl _ _) _)) | exact H2.out _ (balloc (bthen (by assumption) (by assumption)) _)))
            ((go_split_ands; go_at_call 64; refine (HCP.out _ (by assumption)).mono ?_; rintro e w8 ⟨v, rfl, hrow, hb8⟩; obtain ⟨A', c', rfl, hc1, hc2, hsl⟩ := SlR.of_own hrow; have h8 : Below wr.heap.size wr w8 := bthen (by assumption) hb8; (try (obtain ⟨q0, q1, q2, q3⟩ := (((Blk.new wr 25 [.int .i64 0, .slice none 0 0]).drew).below hb8 (by simp)).all2; have q4 : wr.heap.size < w8.heap.size := (((Blk.new wr 25 [.int .i64 0, .slice none 0 0]).drew).below hb8 (by simp)).lt))))
          · go_wp2_with fail
            go_meet
            refine ⟨w8.heap.size, A', c', rfl, by omega, by simpa [maxLen] using hc2, h8.size, ?_, ?_, balloc h8 _⟩
            · rw [hlN]; exact Blk.new w8 25 [.int .i64 p, .slice A' (N + 1) c']
            · rw [hlN]; exact own_mono (hrow.alloc _) (by simp)
          · go_wp2_with fail
            go_meet
            have gN := ((Blk.new wr 25 [.int .i64 0, .slice none 0 0]).drew).below hb8 (by simp)
            refine ⟨wr.heap.size, A', c', rfl, by omega, by simpa [maxLen] using hc2, Nat.le_refl _, ?_, ?_, bset (bset h8 (Nat.le_refl _) _) (Nat.le_refl _) _⟩
            · rw [hlN]; exact (gN.set 0 (.int .i64 p)).set 1 (.slice A' (N + 1) c')
            · rw [hlN]; exact own_mono (own_set (own_set hrow ⟨wr.heap.size, 0, none⟩ (by simp) (.int .i64 p)) ⟨wr.heap.size, 1, none⟩ (by simp) (.slice A' (N + 1) c')) (by simp)
        case rest =>
          obtain ⟨W2, rfl⟩ : ∃ W2, W2 = wc := ⟨_, rfl⟩
          obtain ⟨b, A2, c2, rfl, hm1, hm2, hbb, gB, hown, hb2⟩ := hcut
          obtain ⟨q1, q2, q3, q4⟩ := H1.out
          have hkV := c_rValid p A2 m.length c2 m W2 (own_row hown).2.2 (by omega)
          obtain ⟨b0, b1, _, _⟩ := gB.all2
          have hbl := gB.lt
          have hgl2 := q3.lt
          have H4 := hide (And.intro gB (And.intro hown (And.intro (q3.below hb2 q3.lt) (And.intro (bthen q4 hb2) (And.intro hm1 (And.intro hm2 hlN))))))
          have hne : w.heap.size + 1 + 1 < b := by omega
          have hw2 : wr.heap.size ≤ W2.heap.size := hb2.size
          have hwr : w.heap.size + 1 + 1 < wr.heap.size := hgl
          clear gB hown q1 q2 q3 q4 hb2 hm1 hm2 hlN H2 HCP H1 hgl hgl2
          go_wp2_with fail
          refine hkV.mono ?_
          clear hkV b0 b1
          rintro e W3 ⟨rfl, hb3⟩
          obtain ⟨gB, hown, gZ, hbw, hm1, hm2, hlN⟩ := H4.out
          obtain ⟨b0, b1, _, _⟩ := (gB.below hb3 gB.lt).all2
          obtain ⟨z0, z1, z2, z3⟩ := (gZ.below hb3 gZ.lt).all2
          have hz3 := (gZ.below hb3 gZ.lt).lt
          have hbl3 := (gB.below hb3 gB.lt).lt
          have HS := hide (own_to hown hb3)
          have hb03 := bthen hbw hb3
          clear gB hown gZ hbw hb3 H4 hlN
          cases hV : vrB p m with
          | false =>
            have HQ := hide (show addM p l x = none by rw [HE.out, hV]; rfl)
            clear hV
            go_wp2
            exact bodyPost_ret (v := .tuple #[.agg #[.int .i64 0, .slice none 0 0], .int .i64 350]) (by simp [results, Tryz.results58, go_sem, z0, z1]) rfl ⟨(hb03.setCell (by simp; omega) _).setCell (by simp; omega) _, .inl ⟨HQ.out, rfl⟩⟩
          | true =>
            have HQ := hide (show addM p l x = some m by rw [HE.out, hV]; rfl)
            clear hV
            go_wp2
            refine bodyPost_ret (v := .tuple #[.agg #[.int .i64 p, .slice A2 m.length c2], .int .i64 0]) (by simp [results, Tryz.results58, go_sem, z0, z1]) rfl ⟨(hb03.setCell (by simp; omega) _).setCell (by simp; omega) _, .inr ⟨m, A2, c2, HQ.out, rfl, hm1, hm2, ?_⟩⟩
            exact (SlN.mono (own_sln (own_set (own_set HS.out ⟨w.heap.size + 1 + 1, 0, none⟩ hwr (.int .i64 p)) ⟨w.heap.size + 1 + 1, 1, none⟩ hwr (.slice A2 m.length c2))) (by omega))
end Go.Proofs.YtcfbgelhggapjaaGreatDoor
