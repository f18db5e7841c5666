/- Contracts: Same of modules (the reference's, the package's), slices.Contains at ints, ProperCopy. -/
import Derived.Test.YtncdombfhcfobaaM6
namespace Go.Proofs.Ytncdombfhcfobaa
open Go.RowKit Go.Shelf
theorem Blk.two {W : World} {g : Nat} {t : TypeId} {a b : Value} (h : Blk W g t [a, b]) : W.cell? ⟨g, 0, none⟩ = some a ∧ W.cell? ⟨g, 1, none⟩ = some b := ⟨h.cell 0, h.cell 1⟩
theorem c_rSame (r s : MR) (l k : List It) (w : World) (hn : r.n ≤ 9223372036854775807) (hm : s.n ≤ 9223372036854775807) (hr : SlR w w.heap.size 6 r.a r.n (l.flatMap cI)) (hs : SlR w w.heap.size 6 s.a s.n (k.flatMap cI)) :
    Calls Try.prog 12 #[mrV r, mrV s] w fun e w' => e = .returned (.bool (decide (r.id = s.id) && decide (l = k))) ∧ Below w.heap.size w w' := by
  have hb0 := balloc (balloc (Below.refl w.heap.size w) (.cells #[.int .i64 r.id, .slice r.a r.n r.c] 27)) (.cells #[.int .i64 s.id, .slice s.a s.n s.c] 27)
  have hcall := c_rSameItems r.a r.n r.c l s.a s.n s.c k _ hn hm (hr.to' hb0) (hs.to' hb0)
  clear hr hs
  by_cases he : r.id = s.id
  · have hd : (r.id == s.id) = true := by simpa using he
    have HE := hide he
    clear he
    unfold mrV
    go_enter Try.func12, Try.ntmps12
    go_wp2_with (go_at_call 20; refine hcall.mono ?_; rintro e w1 ⟨rfl, hb1⟩)
    go_ret
    exact ⟨ret_bool (by simp [HE.out]), bthen hb0 hb1⟩
  · have hd : (r.id == s.id) = false := by simpa using he
    have HE := hide he
    clear he
    unfold mrV
    go_enter Try.func12, Try.ntmps12
    go_wp2
    go_ret
    exact ⟨ret_bool (by simp [HE.out]), hb0⟩
theorem c_Same (r s : MR) (l k : List It) (w : World) (hn : r.n ≤ 9223372036854775807) (hm : s.n ≤ 9223372036854775807) (hr : SlR w w.heap.size 6 r.a r.n (l.flatMap cI)) (hs : SlR w w.heap.size 6 s.a s.n (k.flatMap cI)) :
    Calls Try.prog 34 #[mrV r, mrV s] w fun e w' => e = .returned (.bool (decide (r.id = s.id) && decide (l = k))) ∧ Below w.heap.size w w' := by
  have hb0 := balloc (balloc (Below.refl w.heap.size w) (.cells #[.int .i64 r.id, .slice r.a r.n r.c] 27)) (.cells #[.int .i64 s.id, .slice s.a s.n s.c] 27)
  have hcall := c_eqItem r.a r.n r.c l s.a s.n s.c k _ hn hm (hr.to' hb0) (hs.to' hb0)
  clear hr hs
  by_cases he : r.id = s.id
  · have hd : (r.id == s.id) = true := by simpa using he
    have HE := hide he
    clear he
    unfold mrV
    go_enter Try.func34, Try.ntmps34
    go_wp2_with (go_at_call 56; refine hcall.mono ?_; rintro e w1 ⟨rfl, hb1⟩)
    go_ret
    exact ⟨ret_bool (by simp [HE.out]), bthen hb0 hb1⟩
  · have hd : (r.id == s.id) = false := by simpa using he
    have HE := hide he
    clear he
    unfold mrV
    go_enter Try.func34, Try.ntmps34
    go_wp2
    go_ret
    exact ⟨ret_bool (by simp [HE.out]), hb0⟩
theorem c_idxInt (A : Option Addr) (n c : Nat) (l : List Int) (x : Int) (w : World) (hn : n ≤ 9223372036854775807) (hr : SlR w w.heap.size 1 A n (l.flatMap cN)) :
    Calls Try.prog 73 #[.slice A n c, .int .i64 x] w fun e w' => e = .returned (.int .i64 (idxF (fun y => decide (y = x)) l 0)) ∧ w = w' := by
  have hl := hr.lenN
  have HL := hide hl
  go_enter Try.func73, Try.ntmps73
  go_wp2
  go_loop [5, 8] (fun s i => ∃ k : Nat, k ≤ n ∧ i = .int .i64 k ∧ idxF (fun y => decide (y = x)) (l.drop k) k = idxF (fun y => decide (y = x)) l 0) (fun _ i => n - (intOf i).toNat)
  case atStart => exact ⟨0, Nat.zero_le _, rfl, rfl⟩
  case round =>
    obtain ⟨k, hk, rfl, ho⟩ := hrel
    by_cases hlt : k < n
    · have hkl : k < l.length := by omega
      obtain ⟨b, off, rfl, hbb, hx0⟩ := hr.atN (Below.refl _ _) hkl
      have hd : l.drop k = l[k] :: l.drop (k + 1) := List.drop_eq_getElem_cons hkl
      rw [hd] at ho
      have HO := hide ho
      clear ho hd hr hl
      generalize l[k] = s at *
      have hlt' : (k : Int) < (n : Int) := by omega
      by_cases hq : x = s
      · have hd : (x == s) = true := by simpa using hq
        have HQ := hide hq
        clear hq
        go_wp2
        go_ret
        have h := HO.out
        exact ⟨ret_int (by rw [← h, idxF, if_pos (by simp [HQ.out])]), rfl⟩
      · have hd : (x == s) = false := by simpa using hq
        have HQ := hide hq
        clear hq
        go_wp2
        go_round
        case rel =>
          have h := HO.out
          exact ⟨k + 1, by omega, by go_num, by rw [← h, idxF, if_neg (by have := HQ.out; simp; omega)]⟩
        case measure => simp [intOf]; omega
    · have HO := hide ho
      clear ho hr hl
      go_wp2
      go_ret
      have h := HO.out
      rw [List.drop_eq_nil_of_le (by have := HL.out; omega)] at h
      exact ⟨ret_int h, rfl⟩
theorem any_mem (l : List Int) (x : Int) : l.any (fun y => decide (y = x)) = decide (x ∈ l) := by
  rw [Bool.eq_iff_iff]; simp
theorem c_contInt (A : Option Addr) (n c : Nat) (l : List Int) (x : Int) (w : World) (hn : n ≤ 9223372036854775807) (hr : SlR w w.heap.size 1 A n (l.flatMap cN)) :
    Calls Try.prog 53 #[.slice A n c, .int .i64 x] w fun e w' => e = .returned (.bool (decide (x ∈ l))) ∧ w = w' := by
  have hcall := c_idxInt A n c l x w hn hr
  have hc := idxF_cases (fun y => decide (y = x)) l 0
  rw [← any_mem]
  clear hr
  rcases hc with ⟨h1, h2, _⟩ | ⟨j, hj, h1, h2, h3, h4⟩
  · rw [h1] at hcall
    rw [h2]
    clear h1 h2
    go_enter Try.func53, Try.ntmps53
    go_wp2_with (go_at_call 73; refine hcall.mono ?_; rintro e w' ⟨rfl, rfl⟩)
    go_ret
    exact ⟨rfl, rfl⟩
  · rw [h1] at hcall
    rw [h2]
    clear h1 h2 h3 h4 hj
    generalize 0 + j = q at *
    go_enter Try.func53, Try.ntmps53
    go_wp2_with (go_at_call 73; refine hcall.mono ?_; rintro e w' ⟨rfl, rfl⟩)
    go_ret
    exact ⟨ret_bool (by simp), rfl⟩
/-- an instance -/
structure Cp where
  code : Int
  mod : Int
  x : Int
  y : Int
  changes : List It
  gone : List Int
/-- an instance as it lies in memory -/
structure CR where
  code : Int
  mod : Int
  x : Int
  y : Int
  a : Option Addr
  n : Nat
  c : Nat
  a2 : Option Addr
  n2 : Nat
  c2 : Nat
abbrev crV (r : CR) : Value := .agg #[.int .i64 r.code, .int .i64 r.mod, .int .i64 r.x, .int .i64 r.y, .slice r.a r.n r.c, .slice r.a2 r.n2 r.c2]
def cC (r : CR) : List Value := [.int .i64 r.code, .int .i64 r.mod, .int .i64 r.x, .int .i64 r.y, .slice r.a r.n r.c, .slice r.a2 r.n2 r.c2]
def CpR (w : World) (r : CR) (c : Cp) : Prop := (r.code = c.code ∧ r.mod = c.mod ∧ r.x = c.x ∧ r.y = c.y) ∧ (r.n ≤ r.c ∧ r.c ≤ 9223372036854775807 ∧ SlR w w.heap.size 6 r.a r.n (c.changes.flatMap cI)) ∧ (r.n2 ≤ r.c2 ∧ r.c2 ≤ 9223372036854775807 ∧ SlR w w.heap.size 1 r.a2 r.n2 (c.gone.flatMap cN))
theorem CpR.to {w w' : World} {r : CR} {c : Cp} (h : CpR w r c) (hb : Below w.heap.size w w') : CpR w' r c :=
  ⟨h.1, ⟨h.2.1.1, h.2.1.2.1, h.2.1.2.2.to' hb⟩, h.2.2.1, h.2.2.2.1, h.2.2.2.2.to' hb⟩
theorem Blk.allC {w : World} {g : Nat} {t : TypeId} {s : CR} (h : Blk w g t (cC s)) : w.cell? ⟨g, 0, none⟩ = some (.int .i64 s.code) ∧ w.cell? ⟨g, 1, none⟩ = some (.int .i64 s.mod) ∧ w.cell? ⟨g, 2, none⟩ = some (.int .i64 s.x) ∧
    w.cell? ⟨g, 3, none⟩ = some (.int .i64 s.y) ∧ w.cell? ⟨g, 4, none⟩ = some (.slice s.a s.n s.c) ∧ w.cell? ⟨g, 5, none⟩ = some (.slice s.a2 s.n2 s.c2) :=
  ⟨h.cell 0, h.cell 1, h.cell 2, h.cell 3, h.cell 4, h.cell 5⟩
theorem pi_goneHas (g : Nat) (r : CR) (l : List Int) (w : World) (hg : Blk w g 45 (cC r)) (hn : r.n2 ≤ 9223372036854775807) (hr : SlR w w.heap.size 1 r.a2 r.n2 (l.flatMap cN)) :
    PI Try.prog 52 #[.pointer (some ⟨g, 0, none⟩)] (fun s => decide (s.id ∈ l)) w := fun W s hb => by
  have hlt := hg.lt
  have hgW : g < W.heap.size := Nat.lt_of_lt_of_le hlt hb.size
  obtain ⟨_, _, _, _, _, x5⟩ := (hg.below hb hlt).allC
  have hr2 : SlR W W.heap.size 1 r.a2 r.n2 (l.flatMap cN) := hr.to' hb
  have hcall := c_contInt r.a2 r.n2 r.c2 l s.id _ hn (hr2.to' (balloc (Below.refl W.heap.size W) (.cells #[.int .i64 s.id, .int .i64 s.kind, .int .i64 s.x, .int .i64 s.y, .string s.text, .int .i64 s.mod] 36)))
  clear hr hr2 hg
  show Calls _ _ #[itV s, .pointer (some ⟨g, 0, none⟩)] W _
  go_enter Try.func52, Try.ntmps52
  go_wp2_with fail
  refine hcall.mono ?_
  clear hcall
  rintro e w1 ⟨rfl, rfl⟩
  go_wp2
  go_ret
  exact ⟨rfl, hb.trans ((balloc (Below.refl _ _) _).mono hb.size)⟩
def codeB (n : Int) : Bool := inB n 1 39999 && !decide (n.tmod 1000 = 0)
def cpOk (c : Cp) : Bool := codeB c.code && inB c.mod 1 20 && plB c.x c.y && itsOk c.changes && ascB 0 99 (-1) c.gone && !(c.changes.any fun s => decide (s.id ∈ c.gone))
end Go.Proofs.Ytncdombfhcfobaa
/- Contracts: ProperCopy, SameCopy. -/
namespace Go.Proofs.Ytncdombfhcfobaa
open Go.RowKit Go.Shelf
set_option maxRecDepth 100000 in
set_option maxHeartbeats 2000000 in
theorem c_ProperCopy (r : CR) (c : Cp) (w : World) (h : CpR w r c) :
    Calls Try.prog 33 #[crV r] w fun e w' => e = .returned (.bool (cpOk c)) ∧ Below w.heap.size w w' := by
  obtain ⟨⟨e1, e2, e3, e4⟩, ⟨hn1, hn2, hr⟩, ⟨hm1, hm2, hs⟩⟩ := h
  have eg : ∀ args w, (callFunc 52 args).run Try.prog w = .ok (.enter 52 args) w := enters_of Try.func52 (by kernel_rfl) rfl
  have hb0 := balloc (Below.refl w.heap.size w) (.cells #[.int .i64 r.code, .int .i64 r.mod, .int .i64 r.x, .int .i64 r.y, .slice r.a r.n r.c, .slice r.a2 r.n2 r.c2] 45)
  have gC := Blk.new w 45 (cC r)
  have hr0 := hr.to' hb0
  have hs0 := hs.to' hb0
  have hk0 := c_contItem (fun s => decide (s.id ∈ c.gone)) 52 #[.pointer (some ⟨w.heap.size, 0, none⟩)] eg r.a r.n r.c c.changes _ (by omega) (pi_goneHas w.heap.size r c.gone _ gC (by omega) hs0) hr0
  have HF : Hid (cpOk c = (codeB r.code && inB r.mod 1 20 && plB r.x r.y && itsOk c.changes && ascB 0 99 (-1) c.gone && !(c.changes.any fun s => decide (s.id ∈ c.gone)))) := hide (by unfold cpOk; rw [e1, e2, e3, e4])
  generalize (c.changes.any fun s => decide (s.id ∈ c.gone)) = both at *
  clear hr hs eg e1 e2 e3 e4
  unfold crV
  go_enter Try.func33, Try.ntmps33
  go_wp2_with fail
  refine hk0.mono ?_
  clear hk0
  rintro e w1 ⟨rfl, hb1⟩
  obtain ⟨x0, x1, x2, x3, x4, x5⟩ := (gC.below hb1 gC.lt).allC
  have gC1 := gC.below hb1 gC.lt
  have hg1 := gC1.lt
  have hr1 := hr0.to' hb1
  have hs1 := hs0.to' hb1
  have hb01 := bthen hb0 hb1
  clear gC hr0 hs0 hb0 hb1
  have HG := hide gC1
  clear gC1
  go_wp2_with fail
  refine (c_isIn _ _ _ _).mono ?_
  rintro e w2 ⟨rfl, rfl⟩
  cases hc : inB r.code 1 39999 with
  | false =>
    have HE := hide (show cpOk c = false by rw [HF.out]; simp [codeB, hc])
    clear hc
    go_wp2
    go_ret
    exact ⟨ret_bool HE.out.symm, hb01⟩
  | true =>
    have HC := hide hc
    clear hc
    by_cases hz : r.code.tmod 1000 = 0
    · have hd : (r.code.tmod 1000 != 0) = false := by simp [hz]
      have HE := hide (show cpOk c = false by rw [HF.out]; simp [codeB, hz])
      clear hz
      go_wp2
      go_ret
      exact ⟨ret_bool HE.out.symm, hb01⟩
    · have hd : (r.code.tmod 1000 != 0) = true := by simpa using hz
      have HE := hide (show cpOk c = (inB r.mod 1 20 && plB r.x r.y && itsOk c.changes && ascB 0 99 (-1) c.gone && !both) by rw [HF.out]; simp [codeB, hz, HC.out])
      clear hz HF HC
      go_wp2_with fail
      refine (c_isIn _ _ _ _).mono ?_
      clear hd
      rintro e w2 ⟨rfl, rfl⟩
      cases hc : inB r.mod 1 20 with
      | false =>
        have HE := hide (show cpOk c = false by rw [HE.out, hc]; simp)
        clear hc
        go_wp2
        go_ret
        exact ⟨ret_bool HE.out.symm, hb01⟩
      | true =>
        have HE := hide (show cpOk c = (plB r.x r.y && itsOk c.changes && ascB 0 99 (-1) c.gone && !both) by rw [HE.out, hc]; simp)
        clear hc
        go_wp2_with fail
        refine (c_isPlace _ _ _).mono ?_
        rintro e w2 ⟨rfl, hb2⟩
        obtain ⟨x0, x1, x2, x3, x4, x5⟩ := (HG.out.below hb2 HG.out.lt).allC
        have gC2 := HG.out.below hb2 HG.out.lt
        have hg2 := gC2.lt
        have hr2 := hr1.to' hb2
        have hs2 := hs1.to' hb2
        have hb02 := bthen hb01 hb2
        clear HG hr1 hs1 hb01 hb2
        have HG := hide gC2
        clear gC2
        cases hc : plB r.x r.y with
        | false =>
          have HE := hide (show cpOk c = false by rw [HE.out, hc]; simp)
          clear hc
          go_wp2
          go_ret
          exact ⟨ret_bool HE.out.symm, hb02⟩
        | true =>
          have HE := hide (show cpOk c = (itsOk c.changes && ascB 0 99 (-1) c.gone && !both) by rw [HE.out, hc]; simp)
          clear hc
          go_wp2_with fail
          refine (c_items r.a r.n r.c c.changes _ (by omega) hr2).mono ?_
          rintro e w3 ⟨rfl, hb3⟩
          obtain ⟨x0, x1, x2, x3, x4, x5⟩ := (HG.out.below hb3 HG.out.lt).allC
          have gC2 := HG.out.below hb3 HG.out.lt
          have hg3 := gC2.lt
          have hs3 := hs2.to' hb3
          have hb03 := bthen hb02 hb3
          clear HG hr2 hs2 hb02 hb3 gC2
          cases hc : itsOk c.changes with
          | false =>
            have HE := hide (show cpOk c = false by rw [HE.out, hc]; simp)
            clear hc
            go_wp2
            go_ret
            exact ⟨ret_bool HE.out.symm, hb03⟩
          | true =>
            have HE := hide (show cpOk c = (ascB 0 99 (-1) c.gone && !both) by rw [HE.out, hc]; simp)
            clear hc
            go_wp2_with fail
            refine (c_ascInt r.a2 r.n2 r.c2 0 99 (-1) c.gone _ (by omega) (by omega) hs3).mono ?_
            rintro e w4 ⟨rfl, hb4⟩
            have hb04 := bthen hb03 hb4
            clear hs3 hb03 hb4
            cases hc : ascB 0 99 (-1) c.gone with
            | false =>
              have HE := hide (show cpOk c = false by rw [HE.out, hc]; simp)
              clear hc
              go_wp2
              go_ret
              exact ⟨ret_bool HE.out.symm, hb04⟩
            | true =>
              have HE := hide (show cpOk c = !both by rw [HE.out, hc]; simp)
              clear hc
              go_wp2
              go_ret
              exact ⟨ret_bool HE.out.symm, hb04⟩
end Go.Proofs.Ytncdombfhcfobaa
