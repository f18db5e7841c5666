/- Contracts: uses and boxes of the laws of module. -/
import Derived.Test.YtncdombfhcfobaaM41
namespace Go.Proofs.Ytncdombfhcfobaa
open Go.RowKit
def usP (ms : List Mo) (id : Int) (f : Nat) (s : It) : Bool := decide (s.kind = 2) && (decide (s.mod = id) || ms.any fun m => decide (m.id = s.mod) && usesB ms id f m.items)
theorem usesB_succ (ms : List Mo) (id : Int) (f : Nat) (l : List It) : usesB ms id (f + 1) l = l.any (usP ms id f) := rfl
theorem SlR.bwIs {w0 : World} {b off n k : Nat} {l : List It} {s : It} (h : SlR w0 w0.heap.size 6 (some ⟨b, off, none⟩) n (l.flatMap cI)) (hk : k < l.length) (hs : l[k] = s) (x : BW w0) :
    x.val.cell? ⟨b, off + k * 6, none⟩ = some (.int .i64 s.id) ∧ x.val.cell? ⟨b, off + k * 6 + 1, none⟩ = some (.int .i64 s.kind) ∧ x.val.cell? ⟨b, off + k * 6 + 2, none⟩ = some (.int .i64 s.x) ∧
      x.val.cell? ⟨b, off + k * 6 + 3, none⟩ = some (.int .i64 s.y) ∧ x.val.cell? ⟨b, off + k * 6 + 4, none⟩ = some (.string s.text) ∧ x.val.cell? ⟨b, off + k * 6 + 5, none⟩ = some (.int .i64 s.mod) := by
  subst hs
  exact h.bwI hk x
theorem any_snoc {α : Type} (p : α → Bool) (l : List α) (k : Nat) (hk : k < l.length) (h : (l.take k).any p = false) (h2 : p l[k] = false) : (l.take (k + 1)).any p = false := by
  rw [List.take_succ_eq_append_getElem hk, List.any_append, h]
  simp [h2]
theorem calls_b2 {P : Program} {f : FuncId} {args : Array Value} {W : World} {b b' : Bool} (h : Calls P f args W fun e w' => e = .returned (.bool b) ∧ Below W.heap.size W w') (e : b = b') : Calls P f args W fun e w' => e = .returned (.bool b') ∧ Below W.heap.size W w' := e ▸ h
theorem any_hit {α : Type} (p : α → Bool) (l : List α) (k : Nat) (hk : k < l.length) (h2 : p l[k] = true) : l.any p = true := List.any_eq_true.2 ⟨l[k], List.getElem_mem hk, h2⟩
set_option linter.unusedSimpArgs false in
set_option maxRecDepth 100000 in
set_option maxHeartbeats 4000000 in
theorem c_uses (A : Option Addr) (N cc : Nat) (rows : List MR) (ms : List Mo) (id : Int) (hN : N ≤ 100000) : ∀ (f : Nat) (d : Int) (B : Option Addr) (n e : Nat) (l : List It) (w : World), f ≤ 8 → d + f = 8 → n ≤ 9223372036854775807 → SlR w w.heap.size 2 A N (rows.flatMap cM) → Mods w rows ms → SlR w w.heap.size 6 B n (l.flatMap cI) →
    Calls Try.prog 25 #[.slice A N cc, .slice B n e, .int .i64 id, .int .i64 d] w fun e w' => e = .returned (.bool (usesB ms id f l)) ∧ Below w.heap.size w w' := by
  intro f
  induction f with
  | zero =>
    intro d B n e l w hf hd hn hr hm hl
    have hd8 : d = 8 := by omega
    subst hd8
    clear hd hr hm hl
    go_enter Try.func25, Try.ntmps25
    go_wp2
    go_loopw [9] (fun i wr => i = .int .i64 0 ∧ Below w.heap.size w wr) (fun _ _ => 0)
    case atStart => exact ⟨rfl, Below.refl _ _⟩
    case round =>
      obtain ⟨rfl, hb⟩ := hrel
      by_cases h0 : (0 : Int) < (n : Int)
      · go_wp2_with fail
        go_ret
        exact ⟨rfl, hb⟩
      · go_wp2_with fail
        go_ret
        exact ⟨rfl, hb⟩
  | succ f ih =>
    intro d B n e l w hf hd hn hr hm hl
    have hd8 : d < 8 := by omega
    have hd0 : 0 ≤ d := by omega
    have hf' : f ≤ 8 := by omega
    have hd1 : (d + 1) + (f : Int) = 8 := by omega
    have HD := hide (And.intro hd hd1)
    clear hd hd1
    have hll := hl.lenI
    have hrl := hr.lenm
    have hml : ms.length = N := by rw [← hm.1]; exact hrl
    have HL := hide (And.intro hll (And.intro hrl hml))
    clear hll hrl hml
    have HM := hide (And.intro hr (And.intro hm hl))
    clear hr hm hl
    go_enter Try.func25, Try.ntmps25
    go_wp2
    go_loopw [9] (fun i wr => ∃ k : Nat, k ≤ n ∧ i = .int .i64 k ∧ (l.take k).any (usP ms id f) = false ∧ Below w.heap.size w wr) (fun i _ => n - (intOf i).toNat)
    case atStart => exact ⟨0, Nat.zero_le _, rfl, rfl, Below.refl _ _⟩
    case round =>
      obtain ⟨k, hk, rfl, ha, hb⟩ := hrel
      obtain ⟨wo, rfl⟩ : ∃ W : World, W = wr := ⟨_, rfl⟩
      by_cases hlt : k < n
      · have hkl : k < l.length := by rw [HL.out.1]; exact hlt
        obtain ⟨b, off, hBe, hbb, x0, x1, x2, x3, x4, x5⟩ := HM.out.2.2.atI hb hkl
        have HA := hide ha
        have HS : Hid (usP ms id f l[k] = (decide (l[k].kind = 2) && (decide (l[k].mod = id) || ms.any fun m => decide (m.id = l[k].mod) && usesB ms id f m.items))) := hide rfl
        have HN := hide (fun (h : usP ms id f l[k] = false) => any_snoc _ l k hkl HA.out h)
        have HT := hide (fun (h : usP ms id f l[k] = true) => any_hit _ l k hkl h)
        have hlt' : (k : Int) < (n : Int) := by omega
        subst hBe
        generalize usP ms id f l[k] = U at *
        have HX := hide (fun (W : World) (hW : Below wo.heap.size wo W) => (HM.out.2.2.atI (bthen hb hW) hkl))
        have HAny : Hid (∀ j (h : j < ms.length), ((ms.take j).any fun m => decide (m.id = l[k].mod) && usesB ms id f m.items) = false → (decide (ms[j].id = l[k].mod) && usesB ms id f ms[j].items) = false → ((ms.take (j + 1)).any fun m => decide (m.id = l[k].mod) && usesB ms id f m.items) = false) := hide fun j h h1 h2 => any_snoc _ ms j h h1 h2
        have HHit : Hid (∀ j (h : j < ms.length), (decide (ms[j].id = l[k].mod) && usesB ms id f ms[j].items) = true → (ms.any fun m => decide (m.id = l[k].mod) && usesB ms id f m.items) = true) := hide fun j h h2 => any_hit _ ms j h h2
        have HKL := hide hkl
        generalize hse : l[k] = s at x0 x1 x2 x3 x4 x5 HS HAny HHit HX HN HT
        have HSE := hide hse
        clear ha hkl hse
        by_cases hk2 : s.kind = 2
        · by_cases hmo : s.mod = id
          · have HR := hide (HT.out (by rw [HS.out, decide_eq_true hk2, decide_eq_true hmo]; rfl))
            have hk2' : (s.kind != 2) = false := by simpa using hk2
            have hmo' : (s.mod == id) = true := by simpa using hmo
            have HK := hide (And.intro hk2 hmo)
            clear hk2 hmo
            go_wp2_with fail
            go_ret
            exact ⟨ret_bool HR.out.symm, hb⟩
          · have hk2' : (s.kind != 2) = false := by simpa using hk2
            have hmo' : (s.mod == id) = false := by simpa using hmo
            have HS2 := hide (show U = ms.any fun m => decide (m.id = s.mod) && usesB ms id f m.items by rw [HS.out, decide_eq_true hk2, decide_eq_false hmo]; rfl)
            clear hk2 hmo
            go_wp2_with fail
            go_loopw [10] (fun jv wi => ∃ j : Nat, j ≤ N ∧ jv = .int .i64 j ∧ ((ms.take j).any fun m => decide (m.id = s.mod) && usesB ms id f m.items) = false ∧ Below wo.heap.size wo wi) (fun jv _ => N - (intOf jv).toNat)
            case atStart => exact ⟨0, Nat.zero_le _, rfl, rfl, Below.refl _ _⟩
            case round =>
              obtain ⟨j, hj, rfl, haj, hbi⟩ := hrel
              by_cases hjl : j < N
              · have hjm : j < ms.length := by rw [HL.out.2.2]; exact hjl
                have hjr : j < rows.length := by rw [HL.out.2.1]; exact hjl
                have hbw := bthen hb hbi
                obtain ⟨e1, e2, e3, e4⟩ := (HM.out.2.1.to hbw).2 j hjr hjm
                obtain ⟨bm, om, hAe, hbm, z0, z1⟩ := HM.out.1.atM hbw hjr
                have hslm := HM.out.1.to' hbw
                have hsli := HM.out.2.2.to' hbw
                subst hAe
                have fM := hslm.bwM hjr
                have fX := hsli.bwIs HKL.out HSE.out
                have hnq : rows[j].n ≤ 9223372036854775807 := by omega
                have hstep := HAny.out j hjm haj
                have hhit := HHit.out j hjm
                have hih := fun (x : BW wr) => ih (d + 1) rows[j].a rows[j].n rows[j].c ms[j].items x.val hf' HD.out.2 hnq (hslm.to' x.ok) ((HM.out.2.1.to hbw).to x.ok) (e4.to' x.ok)
                obtain ⟨q, hq⟩ : ∃ q, q = rows[j] := ⟨_, rfl⟩
                rw [← hq] at e1 e2 e3 e4 fM hnq hih z0 z1
                obtain ⟨m', hm'⟩ : ∃ m', m' = ms[j] := ⟨_, rfl⟩
                rw [← hm'] at e1 e4 hstep hhit hih
                clear hq hm'
                obtain ⟨qi, qa, qn, qc⟩ := q
                simp only at e1 e2 e3 e4 fM hnq hih z0 z1
                subst e1
                obtain ⟨fM0, fM1⟩ := split2 fM
                obtain ⟨fX0, fX1, fX2, fX3, fX4, fX5⟩ := split6 fX
                clear fM fX z0 z1 haj e2 e3 e4 hslm hsli
                have hjl' : (j : Int) < (N : Int) := by omega
                have hkn' : (k : Int) < (n : Int) := by omega
                have hbmw : bm < wr.heap.size := Nat.lt_of_lt_of_le hbm hbw.size
                by_cases hid : m'.id = s.mod
                · cases hD : usesB ms id f m'.items with
                  | true =>
                    have HI := hide (fun (x : BW wr) => calls_b2 (hih x) hD)
                    have HR := hide (HT.out (by rw [HS2.out]; exact hhit (by rw [decide_eq_true hid, hD]; rfl)))
                    clear hih hstep hhit hD
                    rw [hid] at fM0 hid
                    clear hid
                    go_wp2_with fail
                    refine wp_region_bw wr (Below.refl _ _) (by kernel_rfl) (by kernel_rfl) ?_
                    repeat (go_big_quiet_step ((go_at_call 25; exact bw_call (HI.out _))))
                    refine wpQuiet_nil ?_
                    intro w5 hb5
                    go_wp2_with fail
                    go_ret
                    exact ⟨ret_bool HR.out.symm, bthen hbw hb5⟩
                  | false =>
                    have HI := hide (fun (x : BW wr) => calls_b2 (hih x) hD)
                    have HR := hide (hstep (by rw [hD, Bool.and_false]))
                    clear hih hstep hhit hD
                    rw [hid] at fM0
                    clear hid
                    go_wp2_with fail
                    refine wp_region_bw wr (Below.refl _ _) (by kernel_rfl) (by kernel_rfl) ?_
                    repeat (go_big_quiet_step ((go_at_call 25; exact bw_call (HI.out _))))
                    refine wpQuiet_nil ?_
                    intro w5 hb5
                    go_wp2_with fail
                    go_roundw
                    case rel => exact ⟨j + 1, by omega, by go_num, HR.out, bthen hbi hb5⟩
                    case measure => simp [intOf]; omega
                · have HR := hide (hstep (by rw [decide_eq_false hid, Bool.false_and]))
                  have hidb : (m'.id == s.mod) = false := by simpa using hid
                  have HID := hide hid
                  clear hih hstep hhit hid
                  go_wp2_with fail
                  refine wp_region_bw wr (Below.refl _ _) (by kernel_rfl) (by kernel_rfl) ?_
                  repeat (go_big_quiet_step (fail))
                  refine wpQuiet_nil ?_
                  intro w5 hb5
                  go_wp2_with fail
                  go_roundw
                  case rel => exact ⟨j + 1, by omega, by go_num, HR.out, bthen hbi hb5⟩
                  case measure => simp [intOf]; omega
              · obtain rfl : N = j := by omega
                have HU := hide (HN.out (by rw [HS2.out]; have := haj; rwa [← HL.out.2.2, List.take_length] at this))
                have hbw := bthen hb hbi
                clear haj
                go_wp2_with fail
                go_roundw
                case rel => exact ⟨k + 1, by omega, by go_num, HU.out, hbw⟩
                case measure => simp [intOf]; omega
        · have hk2' : (s.kind != 2) = true := by simpa using hk2
          have HU := hide (HN.out (by rw [HS.out, decide_eq_false hk2]; rfl))
          have HK := hide hk2
          clear hk2
          go_wp2_with fail
          go_roundw
          case rel => exact ⟨k + 1, by omega, by go_num, HU.out, hb⟩
          case measure => simp [intOf]; omega
      · obtain rfl : n = k := by omega
        have HR := hide (show usesB ms id (f + 1) l = false by rw [usesB_succ]; have := ha; rwa [← HL.out.1, List.take_length] at this)
        clear ha
        go_wp2_with fail
        go_ret
        exact ⟨ret_bool HR.out.symm, hb⟩
/-! boxes -/
def bxStep (ms : List Mo) (f : Nat) (n : Nat) (s : It) : Nat := if n < 1000 then (if s.kind = 1 then n + 1 else n + bxS ms f (itemsOf ms s.mod)) else n
theorem bxS_succ (ms : List Mo) (f : Nat) (l : List It) : bxS ms (f + 1) l = l.foldl (bxStep ms f) 0 := rfl
theorem bxS_nil (ms : List Mo) : ∀ f, bxS ms f [] = 0
  | 0 => rfl
  | _ + 1 => rfl
theorem bx_stop (ms : List Mo) (f : Nat) : ∀ (l : List It) (a : Nat), 1000 ≤ a → l.foldl (bxStep ms f) a = a
  | [], _, _ => rfl
  | s :: l, a, h => by
    rw [List.foldl_cons, show bxStep ms f a s = a by unfold bxStep; rw [if_neg (by omega)]]
    exact bx_stop ms f l a h
theorem bx_take (ms : List Mo) (f : Nat) (l : List It) (k : Nat) (hk : k < l.length) : (l.take (k + 1)).foldl (bxStep ms f) 0 = bxStep ms f ((l.take k).foldl (bxStep ms f) 0) l[k] := by
  rw [List.take_succ_eq_append_getElem hk, List.foldl_append]
  rfl
theorem bx_early (ms : List Mo) (f : Nat) (l : List It) (k : Nat) (h : 1000 ≤ (l.take k).foldl (bxStep ms f) 0) : l.foldl (bxStep ms f) 0 = (l.take k).foldl (bxStep ms f) 0 := by
  conv => lhs; rw [← List.take_append_drop k l, List.foldl_append]
  exact bx_stop ms f _ _ h
def inStep (ms : List Mo) (f : Nat) (x : Int) (a : Nat) (m : Mo) : Nat := if m.id = x then a + bxS ms f m.items else a
theorem in_fold (M : List Mo) (f : Nat) (x : Int) : ∀ (ms : List Mo) (a : Nat), (ms.map (·.id)).Nodup → ms.foldl (inStep M f x) a = a + bxS M f (itemsOf ms x)
  | [], a, _ => by rw [show itemsOf [] x = [] from rfl, bxS_nil]; rfl
  | m :: ms, a, h => by
    rw [List.map_cons, List.nodup_cons] at h
    rw [List.foldl_cons, in_fold M f x ms _ h.2]
    unfold inStep
    by_cases e : m.id = x
    · have h1 : itemsOf (m :: ms) x = m.items := by unfold itemsOf findM; rw [List.find?_cons_of_pos (by simpa using e)]
      have h2 : itemsOf ms x = [] := itemsOf_none fun q hq he => h.1 (by rw [e, ← he]; exact List.mem_map.2 ⟨q, hq, rfl⟩)
      rw [if_pos e, h1, h2, bxS_nil, Nat.add_zero]
    · have h1 : itemsOf (m :: ms) x = itemsOf ms x := by unfold itemsOf findM; rw [List.find?_cons_of_neg (by simpa using e)]
      rw [if_neg e, h1]
theorem in_take (M : List Mo) (f : Nat) (x : Int) (ms : List Mo) (a k : Nat) (hk : k < ms.length) : (ms.take (k + 1)).foldl (inStep M f x) a = inStep M f x ((ms.take k).foldl (inStep M f x) a) ms[k] := by
  rw [List.take_succ_eq_append_getElem hk, List.foldl_append]
  rfl
set_option linter.unusedSimpArgs false in
set_option maxRecDepth 100000 in
set_option maxHeartbeats 4000000 in
theorem c_boxes (A : Option Addr) (N cc : Nat) (rows : List MR) (ms : List Mo) (hN : N ≤ 100000) (hnd : (ms.map (·.id)).Nodup) : ∀ (f : Nat) (d : Int) (B : Option Addr) (n e : Nat) (l : List It) (w : World), f ≤ 8 → d + f = 8 → n ≤ 9223372036854775807 → SlR w w.heap.size 2 A N (rows.flatMap cM) → Mods w rows ms → SlR w w.heap.size 6 B n (l.flatMap cI) →
    Calls Try.prog 22 #[.slice A N cc, .slice B n e, .int .i64 d] w fun e w' => e = .returned (.int .i64 ((bxS ms f l : Nat) : Int)) ∧ Below w.heap.size w w' := by
  have HND := hide hnd
  clear hnd
  intro f
  induction f with
  | zero =>
    intro d B n e l w hf hd hn hr hm hl
    have hd8 : d = 8 := by omega
    subst hd8
    clear hd hr hm hl
    go_enter Try.func22, Try.ntmps22
    go_wp2
    go_loopw [7, 8] (fun nv i wr => nv = .int .i64 0 ∧ i = .int .i64 0 ∧ Below w.heap.size w wr) (fun _ _ _ => 0)
    case atStart => exact ⟨rfl, rfl, Below.refl _ _⟩
    case round =>
      obtain ⟨rfl, rfl, hb⟩ := hrel
      by_cases h0 : (0 : Int) < (n : Int)
      · go_wp2_with fail
        go_ret
        exact ⟨rfl, hb⟩
      · go_wp2_with fail
        go_ret
        exact ⟨rfl, hb⟩
  | succ f ih =>
    intro d B n e l w hf hd hn hr hm hl
    have hd8 : d < 8 := by omega
    have hd0 : 0 ≤ d := by omega
    have hf' : f ≤ 8 := by omega
    have hd1 : (d + 1) + (f : Int) = 8 := by omega
    have HD := hide (And.intro hd hd1)
    clear hd hd1
    have hll := hl.lenI
    have hrl := hr.lenm
    have hml : ms.length = N := by rw [← hm.1]; exact hrl
    have HL := hide (And.intro hll (And.intro hrl hml))
    clear hll hrl hml
    have HM := hide (And.intro hr (And.intro hm hl))
    clear hr hm hl
    go_enter Try.func22, Try.ntmps22
    go_wp2
    go_loopw [7, 8] (fun nv i wr => ∃ k a : Nat, k ≤ n ∧ i = .int .i64 k ∧ nv = .int .i64 a ∧ (l.take k).foldl (bxStep ms f) 0 = a ∧ a ≤ 100000 ∧ Below w.heap.size w wr) (fun _ i _ => n - (intOf i).toNat)
    case atStart => exact ⟨0, 0, Nat.zero_le _, rfl, rfl, rfl, by omega, Below.refl _ _⟩
    case round =>
      obtain ⟨k, a, hk, rfl, rfl, ha, hab, hb⟩ := hrel
      obtain ⟨wo, rfl⟩ : ∃ W : World, W = wr := ⟨_, rfl⟩
      by_cases hlt : k < n
      · by_cases ha1 : a < 1000
        · have hkl : k < l.length := by rw [HL.out.1]; exact hlt
          obtain ⟨b, off, hBe, hbb, x0, x1, x2, x3, x4, x5⟩ := HM.out.2.2.atI hb hkl
          have hst := bx_take ms f l k hkl
          rw [ha] at hst
          have HSt := hide hst
          have HKL := hide hkl
          have hlt' : (k : Int) < (n : Int) := by omega
          have ha1' : (a : Int) < 1000 := by omega
          subst hBe
          generalize hse : l[k] = s at x0 x1 x2 x3 x4 x5 HSt
          have HSE := hide hse
          have HA := hide ha
          clear hkl hse ha hst
          by_cases hk1 : s.kind = 1
          · have hk1' : (s.kind == 1) = true := by simpa using hk1
            have HU := hide (show (l.take (k + 1)).foldl (bxStep ms f) 0 = a + 1 by rw [HSt.out]; unfold bxStep; rw [if_pos ha1, if_pos hk1])
            have HK := hide hk1
            clear hk1
            go_wp2_with fail
            go_roundw
            case rel => exact ⟨k + 1, a + 1, by omega, by go_num, by go_num, HU.out, by omega, hb⟩
            case measure => simp [intOf]; omega
          · have hk1' : (s.kind == 1) = false := by simpa using hk1
            have HU := hide (show (l.take (k + 1)).foldl (bxStep ms f) 0 = a + bxS ms f (itemsOf ms s.mod) by rw [HSt.out]; unfold bxStep; rw [if_pos ha1, if_neg hk1])
            have HK := hide hk1
            clear hk1
            go_wp2_with fail
            go_loopw [7, 9] (fun nv jv wi => ∃ j v : Nat, j ≤ N ∧ jv = .int .i64 j ∧ nv = .int .i64 v ∧ (ms.take j).foldl (inStep ms f s.mod) a = v ∧ v ≤ 1000 + 8000 * j ∧ Below wo.heap.size wo wi) (fun _ jv _ => N - (intOf jv).toNat)
            case atStart => exact ⟨0, a, Nat.zero_le _, rfl, rfl, rfl, by omega, Below.refl _ _⟩
            case round =>
              obtain ⟨j, v, hj, rfl, rfl, haj, hvb, hbi⟩ := hrel
              by_cases hjl : j < N
              · have hjm : j < ms.length := by rw [HL.out.2.2]; exact hjl
                have hjr : j < rows.length := by rw [HL.out.2.1]; exact hjl
                have hbw := bthen hb hbi
                obtain ⟨e1, e2, e3, e4⟩ := (HM.out.2.1.to hbw).2 j hjr hjm
                obtain ⟨bm, om, hAe, hbm, z0, z1⟩ := HM.out.1.atM hbw hjr
                have hslm := HM.out.1.to' hbw
                have hsli := HM.out.2.2.to' hbw
                subst hAe
                have fM := hslm.bwM hjr
                have fX := hsli.bwIs HKL.out HSE.out
                have hnq : rows[j].n ≤ 9223372036854775807 := by omega
                have hstep := in_take ms f s.mod ms a j hjm
                rw [haj] at hstep
                have hih := fun (W : World) (hW : Below wr.heap.size wr W) => ih (d + 1) rows[j].a rows[j].n rows[j].c ms[j].items W hf' HD.out.2 hnq (hslm.to' hW) ((HM.out.2.1.to hbw).to hW) (e4.to' hW)
                have fZ := fun (W : World) (hW : Below wr.heap.size wr W) => HM.out.1.atM (bthen hbw hW) hjr
                obtain ⟨q, hq⟩ : ∃ q, q = rows[j] := ⟨_, rfl⟩
                rw [← hq] at e1 e2 e3 e4 fM hnq hih z0 z1 fZ
                obtain ⟨m', hm'⟩ : ∃ m', m' = ms[j] := ⟨_, rfl⟩
                rw [← hm'] at e1 e4 hstep hih
                clear hq hm'
                obtain ⟨qi, qa, qn, qc⟩ := q
                simp only at e1 e2 e3 e4 fM hnq hih z0 z1 fZ
                subst e1
                obtain ⟨fM0, fM1⟩ := split2 fM
                obtain ⟨fX0, fX1, fX2, fX3, fX4, fX5⟩ := split6 fX
                clear fM fX z0 z1 haj e2 e3 e4 hslm hsli
                have hjl' : (j : Int) < (N : Int) := by omega
                have hkn' : (k : Int) < (n : Int) := by omega
                have hbmw : bm < wr.heap.size := Nat.lt_of_lt_of_le hbm hbw.size
                by_cases hid : m'.id = s.mod
                · have hR := hstep
                  unfold inStep at hR
                  rw [if_pos hid] at hR
                  have HR := hide hR
                  have HI := hide hih
                  have HZ := hide fZ
                  have hle := bxS_le ms f m'.items
                  have hbx8 : bxS ms f m'.items ≤ 8000 := by omega
                  clear hih hstep hR fZ hle
                  rw [hid] at fM0 HZ
                  clear hid
                  go_wp2_with fail
                  refine wp_region_bw wr (Below.refl _ _) (by kernel_rfl) (by kernel_rfl) ?_
                  repeat (go_big_quiet_step (fail))
                  refine wpQuiet_nil ?_
                  intro w5 hb5
                  have hi5 := HI.out w5 hb5
                  obtain ⟨b', o', ee, hbb', z0, z1⟩ := HZ.out w5 hb5
                  cases ee
                  have hbm5 : bm < w5.heap.size := Nat.lt_of_lt_of_le hbmw hb5.size
                  generalize bxS ms f m'.items = cb at *
                  go_wp2_with fail
                  refine hi5.mono ?_
                  clear hi5
                  rintro e w6 ⟨rfl, hb6⟩
                  go_wp2_with fail
                  go_roundw
                  case rel => exact ⟨j + 1, v + cb, by omega, by go_num, by go_num, HR.out, by omega, bthen (bthen hbi hb5) hb6⟩
                  case measure => simp [intOf]; omega
                · have hR := hstep
                  unfold inStep at hR
                  rw [if_neg hid] at hR
                  have HR := hide hR
                  have hidb : (m'.id == s.mod) = false := by simpa using hid
                  have HID := hide hid
                  clear hih hstep hid hR fZ
                  go_wp2_with fail
                  refine wp_region_bw wr (Below.refl _ _) (by kernel_rfl) (by kernel_rfl) ?_
                  repeat (go_big_quiet_step (fail))
                  refine wpQuiet_nil ?_
                  intro w5 hb5
                  go_wp2_with fail
                  go_roundw
                  case rel => exact ⟨j + 1, v, by omega, by go_num, rfl, HR.out, by omega, bthen hbi hb5⟩
                  case measure => simp [intOf]; omega
              · obtain rfl : N = j := by omega
                have hv : v = a + bxS ms f (itemsOf ms s.mod) := by
                  have h := in_fold ms f s.mod ms a HND.out
                  have h2 := haj
                  rw [← HL.out.2.2, List.take_length] at h2
                  rw [← h2, h]
                have hle := bxS_le ms f (itemsOf ms s.mod)
                have HV := hide (show (l.take (k + 1)).foldl (bxStep ms f) 0 = v from HU.out.trans hv.symm)
                have hvb2 : v ≤ 100000 := by omega
                have hbw := bthen hb hbi
                clear haj hv hle
                go_wp2_with fail
                go_roundw
                case rel => exact ⟨k + 1, v, by omega, by go_num, rfl, HV.out, hvb2, hbw⟩
                case measure => simp [intOf]; omega
        · have hlt' : (k : Int) < (n : Int) := by omega
          have ha1' : ¬ (a : Int) < 1000 := by omega
          have HR := hide (show bxS ms (f + 1) l = a by rw [bxS_succ, bx_early ms f l k (by omega)]; exact ha)
          clear ha
          go_wp2_with fail
          go_ret
          exact ⟨congrArg (fun z => Ending.returned (Value.int .i64 (Nat.cast z))) HR.out.symm, hb⟩
      · obtain rfl : n = k := by omega
        have HR := hide (show bxS ms (f + 1) l = a by rw [bxS_succ]; have := ha; rwa [← HL.out.1, List.take_length] at this)
        clear ha
        by_cases ha1 : (a : Int) < 1000
        · go_wp2_with fail
          go_ret
          exact ⟨congrArg (fun z => Ending.returned (Value.int .i64 (Nat.cast z))) HR.out.symm, hb⟩
        · go_wp2_with fail
          go_ret
          exact ⟨congrArg (fun z => Ending.returned (Value.int .i64 (Nat.cast z))) HR.out.symm, hb⟩
end Go.Proofs.Ytncdombfhcfobaa
