/- Contracts: ValidCopy, Items. -/
import Derived.Test.YtncdombfhcfobaaM13
namespace Go.Proofs.Ytncdombfhcfobaa
open Go.RowKit
def validCopyB (ms : List Mo) (c : Cp) : Bool := validB ms && cpOk c && (findM ms c.mod).isSome && knownB ms c.changes
set_option maxRecDepth 100000 in
set_option maxHeartbeats 2000000 in
theorem c_ValidCopy (A : Option Addr) (N cc : Nat) (rows : List MR) (ms : List Mo) (r : CR) (c : Cp) (w : World) (hN : N ≤ 9223372036854775807) (hr : SlR w w.heap.size 2 A N (rows.flatMap cM)) (hm : Mods w rows ms) (h : CpR w r c) :
    Calls Try.prog 32 #[.slice A N cc, crV r] w fun e w' => e = .returned (.bool (validCopyB ms c)) ∧ Below w.heap.size w w' := by
  have hb0 := balloc (Below.refl w.heap.size w) (.cells #[.int .i64 r.code, .int .i64 r.mod, .int .i64 r.x, .int .i64 r.y, .slice r.a r.n r.c, .slice r.a2 r.n2 r.c2] 45)
  have gC := Blk.new w 45 (cC r)
  have hk0 := c_find A N cc rows r.mod _ hN (hr.to' hb0)
  obtain ⟨q, bq, hq1, hqb, hq2, hq3, hq4⟩ := hm.itemsOf r.mod
  rw [hq1] at hk0
  have e2 := h.1.2.1
  rw [e2] at hqb
  have HQ := hide hqb
  have hr0 := hr.to' hb0
  have hm0 := hm.to hb0
  have hc0 := h.to hb0
  clear hq1 hqb hr hm h hq4 e2
  unfold crV
  go_enter Try.func32, Try.ntmps32
  go_wp2_with fail
  refine hk0.mono ?_
  clear hk0
  rintro e w1 ⟨rfl, hb1⟩
  have hA := balloc hb1 (.cells #[.int .i64 q.id, .slice q.a q.n q.c] 27)
  have gC1 := gC.below hA gC.lt
  have hb01 := bthen hb0 hA
  have hr1 := hr0.to' hA
  have hm1 := hm0.to hA
  have hc1 := hc0.to hA
  have hcV := c_Valid A N cc rows ms _ hN hr1 hm1
  clear gC hb0 hb1 hr0 hm0 hc0 hA
  go_wp2_with fail
  refine hcV.mono ?_
  clear hcV
  rintro e w2 ⟨rfl, hb2⟩
  obtain ⟨x0, x1, x2, x3, x4, x5⟩ := (gC1.below hb2 gC1.lt).allC
  have gC2 := gC1.below hb2 gC1.lt
  have hlt2 := gC2.lt
  have hb02 := bthen hb01 hb2
  have hr2 := hr1.to' hb2
  have hm2 := hm1.to hb2
  have hc2 := hc1.to hb2
  have HG := hide gC2
  clear gC1 gC2 hb01 hb2 hr1 hm1 hc1
  cases hV : validB ms with
  | false =>
    have HE := hide (show validCopyB ms c = false by unfold validCopyB; rw [hV]; rfl)
    clear hV
    go_wp2
    go_ret
    exact ⟨ret_bool HE.out.symm, hb02⟩
  | true =>
    have HE : Hid (validCopyB ms c = (cpOk c && bq && knownB ms c.changes)) := hide (by unfold validCopyB; rw [hV, HQ.out]; rfl)
    clear hV HQ
    have hcP := c_ProperCopy r c _ hc2
    go_wp2_with fail
    refine hcP.mono ?_
    clear hcP
    rintro e w3 ⟨rfl, hb3⟩
    obtain ⟨x0, x1, x2, x3, x4, x5⟩ := (HG.out.below hb3 HG.out.lt).allC
    have hlt3 := (HG.out.below hb3 HG.out.lt).lt
    have hb03 := bthen hb02 hb3
    have hr3 := hr2.to' hb3
    have hm3 := hm2.to hb3
    have hc3 := hc2.to hb3
    clear hb02 hb3 hr2 hm2 hc2 HG
    cases hP : cpOk c with
    | false =>
      have HE := hide (show validCopyB ms c = false by rw [HE.out, hP]; rfl)
      clear hP
      go_wp2
      go_ret
      exact ⟨ret_bool HE.out.symm, hb03⟩
    | true =>
      have HE := hide (show validCopyB ms c = (bq && knownB ms c.changes) by rw [HE.out, hP]; rfl)
      clear hP
      cases bq with
      | false =>
        go_wp2
        go_ret
        exact ⟨ret_bool (by rw [HE.out]; rfl), hb03⟩
      | true =>
        have hcK := c_known A N cc rows ms r.a r.n r.c c.changes _ hN (by have := hc3.2.1; omega) hr3 hm3 hc3.2.1.2.2
        clear hr3 hm3 hc3
        go_wp2_with fail
        refine hcK.mono ?_
        clear hcK
        rintro e w4 ⟨rfl, hb4⟩
        go_wp2
        go_ret
        exact ⟨ret_bool (by rw [HE.out]; simp), bthen hb03 hb4⟩
theorem itsOk_len {l : List It} (h : itsOk l = true) : l.length ≤ 12 := by
  unfold itsOk at h
  simp only [Bool.and_eq_true, decide_eq_true_eq] at h
  exact h.1.1
theorem valid_len {ms : List Mo} (h : validB ms = true) (n : Int) : (itemsOf ms n).length ≤ 12 := by
  unfold itemsOf
  cases hf : findM ms n with
  | none => simp
  | some m =>
    have hm : m ∈ ms := List.mem_of_find?_eq_some hf
    unfold validB at h
    simp only [Bool.and_eq_true, List.all_eq_true] at h
    have := h.1.2 m hm
    unfold moOk at this
    simp only [Bool.and_eq_true] at this
    exact itsOk_len this.1.2
theorem validCopy_len {ms : List Mo} {c : Cp} (h : validCopyB ms c = true) : (itemsOf ms c.mod).length ≤ 12 ∧ c.changes.length ≤ 12 := by
  unfold validCopyB at h
  simp only [Bool.and_eq_true] at h
  refine ⟨valid_len h.1.1.1 _, ?_⟩
  have := h.1.1.2
  unfold cpOk at this
  simp only [Bool.and_eq_true] at this
  exact itsOk_len this.1.1.2
/-- the answer of Items -/
def ItemsPost (ms : List Mo) (c : Cp) (w : World) (e : Ending) (w' : World) : Prop :=
  Below w.heap.size w w' ∧ ((validCopyB ms c = false ∧ e = .returned (.tuple #[.slice none 0 0, .int .i64 140])) ∨
    ∃ v s, validCopyB ms c = true ∧ SortOf (madeM ms c) s ∧ e = .returned (.tuple #[v, .int .i64 0]) ∧ w'.ownsRow w.heap.size 36 6 v s.length (s.flatMap cI))
set_option maxRecDepth 100000 in
set_option maxHeartbeats 1000000 in
theorem c_Items (A : Option Addr) (N cc : Nat) (rows : List MR) (ms : List Mo) (r : CR) (c : Cp) (w : World) (hN : N ≤ 9223372036854775807) (hr : SlR w w.heap.size 2 A N (rows.flatMap cM)) (hm : Mods w rows ms) (h : CpR w r c) :
    Calls Try.prog 18 #[.slice A N cc, crV r] w (ItemsPost ms c w) := by
  have hb0 := balloc (Below.refl w.heap.size w) (.cells #[.int .i64 r.code, .int .i64 r.mod, .int .i64 r.x, .int .i64 r.y, .slice r.a r.n r.c, .slice r.a2 r.n2 r.c2] 45)
  have gC := Blk.new w 45 (cC r)
  have hk0 := c_ValidCopy A N cc rows ms r c _ hN (hr.to' hb0) (hm.to hb0) (h.to hb0)
  have hr0 := hr.to' hb0
  have hm0 := hm.to hb0
  have hc0 := h.to hb0
  clear hr hm h
  unfold crV
  go_enter Try.func18, Try.ntmps18
  go_wp2_with fail
  refine hk0.mono ?_
  clear hk0
  rintro e w1 ⟨rfl, hb1⟩
  obtain ⟨x0, x1, x2, x3, x4, x5⟩ := (gC.below hb1 gC.lt).allC
  have hb01 := bthen hb0 hb1
  have hr1 := hr0.to' hb1
  have hm1 := hm0.to hb1
  have hc1 := hc0.to hb1
  clear gC hb0 hr0 hm0 hc0 hb1
  cases hV : validCopyB ms c with
  | false =>
    have HV := hide hV
    clear hV
    go_wp2
    go_ret2
    exact ⟨hb01, .inl ⟨HV.out, rfl⟩⟩
  | true =>
    have HV := hide hV
    have hl := validCopy_len hV
    have hcM := c_made A N cc rows ms r c _ hN hr1 hm1 hc1 (by omega)
    clear hV hr1 hm1 hc1 hl
    go_wp2_with fail
    refine hcM.mono ?_
    clear hcM
    rintro e w2 ⟨v, s, rfl, hs, hown, hb2⟩
    have HS := hide (And.intro hs (And.intro hown hb2))
    clear hs hown hb2
    go_wp2
    go_ret2
    obtain ⟨hs, hown, hb2⟩ := HS.out
    exact ⟨bthen hb01 hb2, .inr ⟨v, s, HV.out, hs, rfl, own_base hown hb01.size⟩⟩
end Go.Proofs.Ytncdombfhcfobaa
/- Contracts: slices.Clone at items, copied. -/
namespace Go.Proofs.Ytncdombfhcfobaa
open Go.RowKit
theorem c_cloneItem (A : Option Addr) (n c : Nat) (l : List It) (w : World) (hn : n ≤ 1000000) (hr : SlR w w.heap.size 6 A n (l.flatMap cI)) :
    Calls Try.prog 61 #[.slice A n c] w fun e w' => ∃ v, e = .returned v ∧ w'.ownsRow w.heap.size 36 6 v n (l.flatMap cI) ∧ Below w.heap.size w w' := by
  obtain ⟨i0, hi, hz0, hz1, hz2⟩ := info_parts Try.infoItem
  cases A with
  | none =>
    have h0 : n = 0 := by
      rcases Nat.eq_zero_or_pos n with h | h
      · exact h
      · obtain ⟨_, _, he, _⟩ := hr.2 h; cases he
    subst h0
    have hnil := hr.zero rfl
    rw [hnil]
    clear hnil hr
    have hq : ∀ w, (binOp .eql 24 (.slice none 0 c) (.slice none 0 0)).run Try.prog w = .ok (.bool true) w := fun w => Lib.run_eql_slice_nil w _ _ none 0 c 0 0 Try.underlying24
    go_enter Try.func61, Try.ntmps61
    go_wp2
    go_ret
    exact ⟨_, rfl, World.ownsRow_nil _ _ _ _, Below.refl _ _⟩
  | some a =>
    have hown : (w.alloc (.cells #[] 36)).ownsRow w.heap.size 36 6 (.slice (some ⟨w.heap.size, 0, none⟩) 0 0) 0 [] :=
      ⟨by simp, .inr ⟨w.heap.size, 0, #[], rfl, Nat.le_refl _, heap_alloc_new w (.cells #[] 36), Nat.le_refl _, Nat.zero_le _, by simp, by simp⟩⟩
    have hr1 := hr.to' (balloc (Below.refl w.heap.size w) (.cells #[] 36))
    clear hr
    have hq : ∀ w, (binOp .eql 24 (.slice (some a) n c) (.slice none 0 0)).run Try.prog w = .ok (.bool false) w := fun w => Lib.run_eql_slice_nil w _ _ (some a) n c 0 0 Try.underlying24
    go_enter Try.func61, Try.ntmps61
    go_wp2_with (at_builtin; refine wpList_append_sl (size := 6) rfl _ _ 24 rfl w.heap.size 36 i0 zV 56 Try.underlying24 hi hz0 hz1 hz2 rfl (by decide) _ 0 [] rfl hown n c (l.flatMap cI) rfl hr1 (Below.refl _ _) (fun u hu => oneI l u hu) (by unfold maxLen; omega) (by omega) (by simp) ?_; intro v6 w6 hown6 hgrow6 hor6)
    go_ret
    rw [Nat.zero_add, List.nil_append] at hown6
    exact ⟨_, rfl, hown6, bgrown (balloc (Below.refl _ _) _) hgrow6 (fun k e => by cases e; exact Nat.le_refl _)⟩
theorem own_set {W : World} {b : Nat} {e : TypeId} {k n : Nat} {v : Value} {xs : List Value} (h : W.ownsRow b e k v n xs) (p : Addr) (hp : p.block < b) (u : Value) : (W.setCell p u).ownsRow b e k v n xs := by
  refine ⟨h.1, ?_⟩
  rcases h.2 with h | ⟨g, c', cur, q1, q2, q3, q4⟩
  · exact .inl h
  · exact .inr ⟨g, c', cur, q1, q2, (Below.heap_setCell W p u g (by omega)).trans q3, q4⟩
/-- a copy of a module: a row of its own -/
def CopiedPost (r : MR) (l : List It) (w : World) (e : Ending) (w' : World) : Prop :=
  ∃ q : MR, e = .returned (mrV q) ∧ q.id = r.id ∧ w'.ownsRow 0 36 6 (.slice q.a q.n q.c) q.n (l.flatMap cI) ∧ Below w.heap.size w w'
set_option maxHeartbeats 1000000 in
theorem c_copied (r : MR) (l : List It) (w : World) (hn : r.n ≤ 1000000) (hr : SlR w w.heap.size 6 r.a r.n (l.flatMap cI)) :
    Calls Try.prog 39 #[mrV r] w (CopiedPost r l w) := by
  have hb0 := balloc (balloc (Below.refl w.heap.size w) (.cells #[.int .i64 r.id, .slice r.a r.n r.c] 27)) (.cells #[.int .i64 0, .slice none 0 0] 27)
  have gM : Blk ((w.alloc (.cells #[.int .i64 r.id, .slice r.a r.n r.c] 27)).alloc (.cells #[.int .i64 0, .slice none 0 0] 27)) w.heap.size 27 (cM r) := (Blk.new w 27 (cM r)).alloc (.cells #[.int .i64 0, .slice none 0 0] 27)
  have gZ := Blk.new (w.alloc (.cells #[.int .i64 r.id, .slice r.a r.n r.c] 27)) 27 [.int .i64 0, .slice none 0 0]
  rw [show (w.alloc (.cells #[.int .i64 r.id, .slice r.a r.n r.c] 27)).heap.size = w.heap.size + 1 from by simp] at gZ
  have hr0 := hr.to' hb0
  unfold mrV
  go_enter Try.func39, Try.ntmps39
  go_wp2_with fail
  generalize hw0 : (w.alloc (.cells #[.int .i64 r.id, .slice r.a r.n r.c] 27)).alloc (.cells #[.int .i64 0, .slice none 0 0] 27) = w0 at *
  have hS : ∀ W, Below (w.heap.size + 1) w0 W → (W.cell? ⟨w.heap.size, 0, none⟩ = some (.int .i64 r.id) ∧ W.cell? ⟨w.heap.size, 1, none⟩ = some (.slice r.a r.n r.c)) ∧ Below (w.heap.size + 1) w0 W := fun W h =>
    ⟨(gM.below h (by omega)).two, h⟩
  have HS := hide hS
  have hzl := gZ.lt
  have HZ := hide gZ
  clear hS gM gZ
  go_region_held3 (fun W => (W.cell? ⟨w.heap.size, 0, none⟩ = some (.int .i64 r.id) ∧ W.cell? ⟨w.heap.size, 1, none⟩ = some (.slice r.a r.n r.c)) ∧ Below (w.heap.size + 1) w0 W)
    (first | exact HS.out _ (by assumption) | exact HS.out _ (Below.refl _ _).drew | (go_split_ands; first | exact HS.out _ (by assumption) | exact HS.out _ (((Below.refl _ _).drew.trans (by assumption)).setCell (Nat.le_refl _) _ |>.setCell (Nat.le_refl _) _) | exact HS.out _ ((Below.trans (by assumption) (Below.mono (by assumption) (by omega)))) | exact HS.out _ (((by assumption : Below (w.heap.size + 1) w0 _).setCell (Nat.le_refl _) _).setCell (Nat.le_refl _) _)))
    ((go_at_call 61; refine (c_cloneItem r.a r.n r.c l _ hn (hr0.to' (bdrew (Below.refl _ _)))).mono ?_; rintro e w1 ⟨v, rfl, hown, hb1⟩; obtain ⟨A', c', rfl, hc1, hc2, hs⟩ := SlR.of_own hown; have hown' := hown; have hb1' : Below w0.heap.size w0 w1 := bthen (bdrew (Below.refl _ _)) hb1; have hb1'' : Below (w.heap.size + 1) w0 w1 := hb1'.mono (by omega); obtain ⟨z0, z1, z2, z3⟩ := (HZ.out.below hb1' HZ.out.lt).all2))
  all_goals
    have HR := hide (And.intro hown' (And.intro hb1' (And.intro hc1 hc2)))
    have hw1l : w.heap.size + 1 < w1.heap.size := by have := hb1'.size; omega
    clear hs hb1' hown hown'
    go_wp2_with fail
    refine bodyPost_ret (v := mrV ⟨r.id, A', r.n, c'⟩) (by simp [results, Try.results39, go_sem, z0, z1]) rfl ?_
    obtain ⟨hown, hb1', _, _⟩ := HR.out
    refine ⟨⟨r.id, A', r.n, c'⟩, rfl, rfl, ?_, ?_⟩
    · exact own_base (own_set (own_set hown ⟨w.heap.size + 1, 0, none⟩ hzl (.int .i64 r.id)) ⟨w.heap.size + 1, 1, none⟩ hzl (.slice A' r.n c')) (Nat.zero_le _)
    · exact (hb0.trans (hb1'.mono hb0.size)).setCell (by simp) _ |>.setCell (by simp) _
end Go.Proofs.Ytncdombfhcfobaa
