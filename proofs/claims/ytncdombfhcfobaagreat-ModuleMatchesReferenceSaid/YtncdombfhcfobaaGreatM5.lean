/- Contracts: find, known, Proper. -/
import Derived.Test.YtncdombfhcfobaaGreatM4
namespace Go.Proofs.YtncdombfhcfobaaGreat
open Go.RowKit Go.Shelf
structure Mo where
  id : Int
  items : List It
/-- what the rows of memory hold, as modules -/
def Mods (w : World) (rows : List MR) (ms : List Mo) : Prop :=
  rows.length = ms.length ∧ ∀ (k : Nat) (h : k < rows.length) (h' : k < ms.length), rows[k].id = ms[k].id ∧ rows[k].n ≤ rows[k].c ∧ rows[k].c ≤ 9223372036854775807 ∧ SlR w w.heap.size 6 rows[k].a rows[k].n (ms[k].items.flatMap cI)
theorem Mods.to {w w' : World} {rows : List MR} {ms : List Mo} (h : Mods w rows ms) (hb : Below w.heap.size w w') : Mods w' rows ms :=
  ⟨h.1, fun k h1 h2 => ⟨(h.2 k h1 h2).1, (h.2 k h1 h2).2.1, (h.2 k h1 h2).2.2.1, (h.2 k h1 h2).2.2.2.to' hb⟩⟩
theorem Mods.ids {w : World} {rows : List MR} {ms : List Mo} (h : Mods w rows ms) : rows.map (·.id) = ms.map (·.id) := by
  apply List.ext_getElem
  · simpa using h.1
  · intro k h1 h2
    simp only [List.getElem_map]
    exact (h.2 k (by simpa using h1) (by simpa using h2)).1
theorem Mods.tail {w : World} {r : MR} {m : Mo} {rows : List MR} {ms : List Mo} (h : Mods w (r :: rows) (m :: ms)) : Mods w rows ms :=
  ⟨by simpa using h.1, fun k h1 h2 => h.2 (k + 1) (by simpa using h1) (by simpa using h2)⟩
theorem Mods.nil (w : World) : Mods w [] [] := ⟨rfl, fun k h => absurd h (by simp)⟩
theorem Mods.cons {w : World} {r : MR} {m : Mo} {rows : List MR} {ms : List Mo} (h : Mods w rows ms) (h1 : r.id = m.id) (h2 : r.n ≤ r.c) (h3 : r.c ≤ 9223372036854775807) (h4 : SlR w w.heap.size 6 r.a r.n (m.items.flatMap cI)) : Mods w (r :: rows) (m :: ms) :=
  ⟨by simpa using h.1, fun k a b => by
    cases k with
    | zero => exact ⟨h1, h2, h3, h4⟩
    | succ k => exact h.2 k (by simpa using a) (by simpa using b)⟩
theorem Mods.snoc {w : World} {r : MR} {m : Mo} : ∀ {rows : List MR} {ms : List Mo}, Mods w rows ms → r.id = m.id → r.n ≤ r.c → r.c ≤ 9223372036854775807 → SlR w w.heap.size 6 r.a r.n (m.items.flatMap cI) → Mods w (rows ++ [r]) (ms ++ [m])
  | [], [], h, h1, h2, h3, h4 => h.cons h1 h2 h3 h4
  | [], _ :: _, h, _, _, _, _ => by simp [Mods] at h
  | _ :: _, [], h, _, _, _, _ => by simp [Mods] at h
  | x :: rows, y :: ms, h, h1, h2, h3, h4 => (Mods.snoc h.tail h1 h2 h3 h4).cons (h.2 0 (by simp) (by simp)).1 (h.2 0 (by simp) (by simp)).2.1 (h.2 0 (by simp) (by simp)).2.2.1 (h.2 0 (by simp) (by simp)).2.2.2
def findM (ms : List Mo) (n : Int) : Option Mo := ms.find? (fun m => decide (m.id = n))
def fndR (rows : List MR) (n : Int) : Option MR := rows.find? (fun r => decide (r.id = n))
theorem Mods.find {w : World} {n : Int} : ∀ {rows : List MR} {ms : List Mo}, Mods w rows ms → (fndR rows n = none ∧ findM ms n = none) ∨ ∃ r m, fndR rows n = some r ∧ findM ms n = some m ∧ r.id = n ∧ m.id = n ∧ r.n ≤ r.c ∧ r.c ≤ 9223372036854775807 ∧ SlR w w.heap.size 6 r.a r.n (m.items.flatMap cI)
  | [], [], _ => .inl ⟨rfl, rfl⟩
  | [], _ :: _, h => by simp [Mods] at h
  | _ :: _, [], h => by simp [Mods] at h
  | r :: rows, m :: ms, h => by
    have h0 := h.2 0 (by simp) (by simp)
    simp only [List.getElem_cons_zero] at h0
    obtain ⟨e, h1, h2, h3⟩ := h0
    by_cases hn : r.id = n
    · exact .inr ⟨r, m, by simp [fndR, hn], by simp [findM, ← e, hn], hn, by rw [← e]; exact hn, h1, h2, h3⟩
    · have hn' : ¬ m.id = n := by rw [← e]; exact hn
      have ih := Mods.find (n := n) h.tail
      simp only [fndR, findM, List.find?_cons, hn, hn', decide_false] at ih ⊢
      exact ih
theorem c_findEq (r : MR) (n : Int) (g : Nat) (W : World) (hg : W.cell? ⟨g, 0, none⟩ = some (.int .i64 n)) :
    Calls Tryz.prog 72 #[mrV r, .pointer (some ⟨g, 0, none⟩)] W fun e w' => e = .returned (.bool (decide (r.id = n))) ∧ Below W.heap.size W w' := by
  have hlt := World.block_lt_of_cell? W _ hg
  simp only [] at hlt
  unfold mrV
  go_enter Tryz.func72, Tryz.ntmps72
  go_wp2
  go_ret
  exact ⟨rfl, balloc (Below.refl _ _) _⟩
theorem c_idxMod (n : Int) (g : Nat) (A : Option Addr) (N c : Nat) (l : List MR) (w : World) (hn : N ≤ 9223372036854775807) (hg : w.cell? ⟨g, 0, none⟩ = some (.int .i64 n)) (hr : SlR w w.heap.size 2 A N (l.flatMap cM)) :
    Calls Tryz.prog 71 #[.slice A N c, .func (.func 72) #[] #[.pointer (some ⟨g, 0, none⟩)]] w fun e w' => e = .returned (.int .i64 (idxF (fun r : MR => decide (r.id = n)) l 0)) ∧ Below w.heap.size w w' := by
  have hl := hr.lenm
  have HL := hide hl
  have hglt := World.block_lt_of_cell? w _ hg
  simp only [] at hglt
  go_enter Tryz.func71, Tryz.ntmps71
  go_wp2
  go_loopw [5, 8] (fun s i wr => ∃ k : Nat, k ≤ N ∧ i = .int .i64 k ∧ idxF (fun r : MR => decide (r.id = n)) (l.drop k) k = idxF (fun r : MR => decide (r.id = n)) l 0 ∧ Below w.heap.size w wr) (fun _ i _ => N - (intOf i).toNat)
  case atStart => exact ⟨0, Nat.zero_le _, rfl, rfl, Below.refl _ _⟩
  case round =>
    obtain ⟨k, hk, rfl, ho, hb⟩ := hrel
    by_cases hlt : k < N
    · have hkl : k < l.length := by omega
      obtain ⟨b, off, rfl, hbb, hx0, hx1⟩ := hr.atM hb hkl
      have hd : l.drop k = l[k] :: l.drop (k + 1) := List.drop_eq_getElem_cons hkl
      rw [hd] at ho
      have HO := hide ho
      have hgr : wr.cell? ⟨g, 0, none⟩ = some (.int .i64 n) := (hb.cell (p := ⟨g, 0, none⟩) hglt).trans hg
      clear ho hd hr hl hg
      generalize l[k] = r at *
      have hlt' : (k : Int) < (N : Int) := by omega
      by_cases hq : r.id = n
      · have hd : decide (r.id = n) = true := by simpa using hq
        have hcall := c_findEq r n g wr hgr
        rw [hd] at hcall
        have HQ := hide hd
        clear hq hd
        go_wp2_with (go_at_call 72; refine hcall.mono ?_; rintro e w' ⟨rfl, hb'⟩)
        go_ret
        have h := HO.out
        exact ⟨ret_int (by rw [← h, idxF, if_pos HQ.out]), bthen hb hb'⟩
      · have hd : decide (r.id = n) = false := by simpa using hq
        have hcall := c_findEq r n g wr hgr
        rw [hd] at hcall
        have HQ := hide hd
        clear hq hd
        go_wp2_with (go_at_call 72; refine hcall.mono ?_; rintro e w' ⟨rfl, hb'⟩)
        go_roundw
        case rel =>
          have h := HO.out
          exact ⟨k + 1, by omega, by go_num, by rw [← h, idxF, if_neg (by rw [HQ.out]; decide)], bthen hb hb'⟩
        case measure => simp [intOf]; omega
    · have HO := hide ho
      clear ho hr hl
      go_wp2
      go_ret
      have h := HO.out
      rw [List.drop_eq_nil_of_le (by have := HL.out; omega)] at h
      exact ⟨ret_int h, hb⟩
def fndV (o : Option MR) : Value := match o with
  | some r => .tuple #[mrV r, .bool true]
  | none => .tuple #[.agg #[.int .i64 0, .slice none 0 0], .bool false]
theorem c_find (A : Option Addr) (N c : Nat) (l : List MR) (n : Int) (w : World) (hn : N ≤ 9223372036854775807) (hr : SlR w w.heap.size 2 A N (l.flatMap cM)) :
    Calls Tryz.prog 48 #[.slice A N c, .int .i64 n] w fun e w' => e = .returned (fndV (fndR l n)) ∧ Below w.heap.size w w' := by
  have hl := hr.lenm
  have hb0 := balloc (balloc (Below.refl _ w) (.cells #[.int .i64 n] 3)) (.cells #[.int .i64 0, .slice none 0 0] 37)
  have g1 := (Blk.new w 3 [.int .i64 n]).alloc (.cells #[.int .i64 0, .slice none 0 0] 37)
  have g2 := Blk.new (w.alloc (.cells #[.int .i64 n] 3)) 37 [.int .i64 0, .slice none 0 0]
  have hz : (w.alloc (.cells #[.int .i64 n] 3)).heap.size = w.heap.size + 1 := by simp
  rw [hz] at g2
  have hcall := c_idxMod n w.heap.size A N c l _ hn g1.all1.1 (hr.to' hb0)
  rcases idxF_cases (fun r : MR => decide (r.id = n)) l 0 with ⟨h1, _, h3⟩ | ⟨j, hj, h1, _, h3, _⟩
  · rw [h1] at hcall
    have e3 : fndR l n = none := h3
    rw [e3]
    clear h1 h3 e3 hr hl hz
    go_enter Tryz.func48, Tryz.ntmps48
    go_wp2_with fail
    refine hcall.mono ?_
    rintro e w1 ⟨rfl, hb1⟩
    obtain ⟨x0, x1, x2, x3⟩ := (g2.below hb1 g2.lt).all2
    have hlt := (g2.below hb1 g2.lt).lt
    clear hcall g1 g2
    go_wp2
    exact bodyPost_ret (v := .tuple #[.agg #[.int .i64 0, .slice none 0 0], .bool false]) (by simp [results, Tryz.results48, go_sem, x0, x1]) rfl ⟨rfl, bset (bset (bthen hb0 hb1) (by simp) _) (by simp) _⟩
  · rw [h1] at hcall
    have e3 : fndR l n = some l[j] := h3
    rw [e3]
    rw [Nat.zero_add] at hcall
    have hji : (j : Int) < (N : Int) := by omega
    clear h1 h3 e3 hz
    go_enter Tryz.func48, Tryz.ntmps48
    go_wp2_with fail
    refine hcall.mono ?_
    rintro e w1 ⟨rfl, hb1⟩
    obtain ⟨x0, x1, x2, x3⟩ := (g2.below hb1 g2.lt).all2
    have hlt := (g2.below hb1 g2.lt).lt
    obtain ⟨b, off, rfl, hbb, y0, y1⟩ := hr.atM (bthen hb0 hb1) hj
    have hne : b ≠ w.heap.size + 1 := by omega
    have hj0 : (0 : Int) ≤ (j : Int) := by omega
    clear hcall g1 g2 hr hl
    go_wp2
    exact bodyPost_ret (v := .tuple #[mrV l[j], .bool true]) (by simp [results, Tryz.results48, go_sem, x0, x1]) rfl ⟨rfl, bset (bset (bthen hb0 hb1) (by simp) _) (by simp) _⟩
def inItem (ms : List Mo) (s : It) : Bool := !(decide (s.kind = 2)) || (findM ms s.mod).isSome
def knownB (ms : List Mo) (l : List It) : Bool := l.all (inItem ms)
theorem pi_known (g : Nat) (A : Option Addr) (N c : Nat) (rows : List MR) (ms : List Mo) (w : World) (hn : N ≤ 9223372036854775807) (hg : w.cell? ⟨g, 0, none⟩ = some (.slice A N c)) (hr : SlR w w.heap.size 2 A N (rows.flatMap cM)) (hm : Mods w rows ms) :
    PI Tryz.prog 70 #[.pointer (some ⟨g, 0, none⟩)] (fun s => !inItem ms s) w := fun W s hb => by
  have hlt := World.block_lt_of_cell? w _ hg
  simp only [] at hlt
  have hc : W.cell? ⟨g, 0, none⟩ = some (.slice A N c) := (hb.cell (p := ⟨g, 0, none⟩) hlt).trans hg
  have hgW : g < W.heap.size := Nat.lt_of_lt_of_le hlt hb.size
  have hr2 : SlR W W.heap.size 2 A N (rows.flatMap cM) := hr.to' hb
  have hA := balloc (Below.refl W.heap.size W) (.cells #[.int .i64 s.id, .int .i64 s.kind, .int .i64 s.x, .int .i64 s.y, .string s.text, .int .i64 s.mod] 27)
  have gI := Blk.new W 27 (cI s)
  have hfin := hm.find (n := s.mod)
  have hcall := c_find A N c rows s.mod _ hn (hr2.to' hA)
  clear hg hr hr2 hm
  show Calls _ _ #[itV s, .pointer (some ⟨g, 0, none⟩)] W _
  obtain ⟨id, kind, x, y, text, mod⟩ := s
  simp only [inItem] at *
  have key : ∃ r : MR, ∃ b : Bool, fndV (fndR rows mod) = .tuple #[mrV r, .bool b] ∧ (findM ms mod).isSome = b := by
    rcases hfin with ⟨h1, h2⟩ | ⟨r, m, h1, h2, _⟩
    · exact ⟨⟨0, none, 0, 0⟩, false, by rw [h1]; rfl, by rw [h2]; rfl⟩
    · exact ⟨r, true, by rw [h1]; rfl, by rw [h2]; rfl⟩
  obtain ⟨r, bb, e1, e2⟩ := key
  rw [e1] at hcall
  have HE := hide e2
  clear e1 e2 hfin
  by_cases hk : kind = 2
  · subst hk
    go_enter Tryz.func70, Tryz.ntmps70
    go_wp2_with fail
    refine hcall.mono ?_
    rintro e w1 ⟨rfl, hb1⟩
    obtain ⟨x0, x1, x2, x3, x4, x5⟩ := Blk.allI (s := ⟨id, 2, x, y, text, mod⟩) (gI.below hb1 gI.lt)
    have hlt1 := (gI.below hb1 gI.lt).lt
    simp only [] at x0 x1 x2 x3 x4 x5
    clear hcall gI
    go_wp2
    go_ret
    exact ⟨ret_bool (by rw [HE.out]; simp), hb.trans ((balloc (bthen hA hb1) _).mono hb.size)⟩
  · have hd : ((kind : Int) == 2) = false := by simpa using hk
    go_enter Tryz.func70, Tryz.ntmps70
    go_wp2_with fail
    refine hcall.mono ?_
    rintro e w1 ⟨rfl, hb1⟩
    obtain ⟨x0, x1, x2, x3, x4, x5⟩ := Blk.allI (s := ⟨id, kind, x, y, text, mod⟩) (gI.below hb1 gI.lt)
    have hlt1 := (gI.below hb1 gI.lt).lt
    simp only [] at x0 x1 x2 x3 x4 x5
    clear hcall gI
    go_wp2
    go_ret
    exact ⟨ret_bool (by simp [hk]), hb.trans ((balloc (bthen hA hb1) _).mono hb.size)⟩
theorem c_known (A : Option Addr) (N c : Nat) (rows : List MR) (ms : List Mo) (B : Option Addr) (m d : Nat) (l : List It) (w : World) (hn : N ≤ 9223372036854775807) (hm' : m ≤ 9223372036854775807) (hr : SlR w w.heap.size 2 A N (rows.flatMap cM)) (hm : Mods w rows ms) (hs : SlR w w.heap.size 6 B m (l.flatMap cI)) :
    Calls Tryz.prog 46 #[.slice A N c, .slice B m d] w fun e w' => e = .returned (.bool (knownB ms l)) ∧ Below w.heap.size w w' := by
  have eg : ∀ args w, (callFunc 70 args).run Tryz.prog w = .ok (.enter 70 args) w := enters_of Tryz.func70 (by kernel_rfl) rfl
  have hA := balloc (Below.refl w.heap.size w) (.cells #[.slice A N c] 28)
  have gI := Blk.new w 28 [.slice A N c]
  have hcall := c_contItem (fun s => !inItem ms s) 70 #[.pointer (some ⟨w.heap.size, 0, none⟩)] eg B m d l _ hm' (pi_known w.heap.size A N c rows ms _ hn gI.all1.1 (hr.to' hA) (hm.to hA)) (hs.to' hA)
  have HE := hide (show (!l.any fun s => !inItem ms s) = knownB ms l by unfold knownB; rw [List.all_eq_not_any_not])
  clear hr hm hs eg gI
  go_enter Tryz.func46, Tryz.ntmps46
  go_wp2_with fail
  refine hcall.mono ?_
  rintro e w1 ⟨rfl, hb1⟩
  clear hcall
  go_wp2
  go_ret
  exact ⟨ret_bool HE.out, bthen hA hb1⟩
theorem c_Proper (r : MR) (l : List It) (w : World) (hn : r.n ≤ 9223372036854775807) (hr : SlR w w.heap.size 6 r.a r.n (l.flatMap cI)) :
    Calls Tryz.prog 31 #[mrV r] w fun e w' => e = .returned (.bool (inB r.id 1 20 && itsOk l)) ∧ Below w.heap.size w w' := by
  have hcall := c_items r.a r.n r.c l _ hn (hr.to' (balloc (Below.refl w.heap.size w) (.cells #[.int .i64 r.id, .slice r.a r.n r.c] 37)))
  clear hr
  unfold mrV
  cases hi : inB r.id 1 20 with
  | false =>
    go_enter Tryz.func31, Tryz.ntmps31
    go_wp2_with (go_at_call 52; refine (c_isInv hi _).mono ?_; rintro e w' ⟨rfl, rfl⟩)
    go_ret
    exact ⟨rfl, balloc (Below.refl _ _) _⟩
  | true =>
    have HI := hide hi
    clear hi
    go_enter Tryz.func31, Tryz.ntmps31
    go_wp2_with (first | (go_at_call 52; refine (c_isInv HI.out _).mono ?_; rintro e w' ⟨rfl, rfl⟩) | (go_at_call 54; refine hcall.mono ?_; rintro e w' ⟨rfl, hb⟩))
    go_ret
    exact ⟨ret_bool (by simp), bthen (balloc (Below.refl _ _) _) hb⟩
end Go.Proofs.YtncdombfhcfobaaGreat
