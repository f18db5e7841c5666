/- Contract: Replace. -/
import Derived.Test.YtncdombfhcfobaaGreatM15
import Derived.Deep.DeepCutAuto
namespace Go.Proofs.YtncdombfhcfobaaGreat
open Go.RowKit
theorem own_bel {W W' : World} {b : Nat} {e : TypeId} {k n : Nat} {v : Value} {xs : List Value} (h : W.ownsRow b e k v n xs) (hb : Below W.heap.size W W') : W'.ownsRow b e k v n xs := by
  refine ⟨h.1, ?_⟩
  rcases h.2 with h | ⟨g, c', cur, q1, q2, q3, q4⟩
  · exact .inl h
  · exact .inr ⟨g, c', cur, q1, q2, (hb.block g (Array.getElem?_eq_some_iff.1 q3).1).trans q3, q4⟩
theorem oneM (l : List MR) (u : Value) (h : u ∈ l.flatMap cM) : u.oneCell' = true := by
  obtain ⟨s, _, hu⟩ := List.mem_flatMap.1 h
  simp only [cM, List.mem_cons, List.not_mem_nil, or_false] at hu
  rcases hu with rfl | rfl <;> rfl
theorem flatM_snoc (l : List MR) (s : MR) : (l ++ [s]).flatMap cM = l.flatMap cM ++ cM s := by simp
abbrev zM : Value := .agg #[.int .i64 0, .slice none 0 0]
def rStep (next : Mo) (s : List Mo × Bool) (m : Mo) : List Mo × Bool :=
  let t := if next.id ≤ m.id ∧ s.2 = false then (s.1 ++ [next], true) else s
  if m.id = next.id then t else (t.1 ++ [m], t.2)
theorem rStep_a {next m : Mo} {out : List Mo} (h : next.id ≤ m.id) : rStep next (out, false) m = if m.id = next.id then (out ++ [next], true) else (out ++ [next] ++ [m], true) := by
  by_cases hc : m.id = next.id <;> simp [rStep, h, hc]
theorem rStep_b {next m : Mo} {out : List Mo} {d : Bool} (h : ¬ (next.id ≤ m.id ∧ d = false)) : rStep next (out, d) m = if m.id = next.id then (out, d) else (out ++ [m], d) := by
  unfold rStep
  simp only [if_neg h]
def rFold (next : Mo) (ms : List Mo) : List Mo × Bool := ms.foldl (rStep next) ([], false)
theorem rFold_snoc (next : Mo) (ms : List Mo) (k : Nat) (hk : k < ms.length) : rFold next (ms.take (k + 1)) = rStep next (rFold next (ms.take k)) ms[k] := by
  unfold rFold
  rw [List.take_succ_eq_append_getElem hk, List.foldl_append]
  rfl
def replL (next : Mo) (ms : List Mo) : List Mo := if (rFold next ms).2 then (rFold next ms).1 else (rFold next ms).1 ++ [next]
theorem Mods.len {w : World} {rows : List MR} {ms : List Mo} (h : Mods w rows ms) : rows.length = ms.length := h.1
/-- the rows' items are rows of the call's own -/
def ModsO (w : World) (rows : List MR) (ms : List Mo) : Prop :=
  rows.length = ms.length ∧ ∀ (k : Nat) (h : k < rows.length) (h' : k < ms.length), rows[k].id = ms[k].id ∧ w.ownsRow 0 27 6 (.slice rows[k].a rows[k].n rows[k].c) rows[k].n (ms[k].items.flatMap cI)
theorem own_row {W : World} {b n c : Nat} {A : Option Addr} {e : TypeId} {k : Nat} {xs : List Value} (h : W.ownsRow b e k (.slice A n c) n xs) : n ≤ c ∧ c ≤ 9223372036854775807 ∧ SlR W W.heap.size k A n xs := by
  obtain ⟨A', c', he, h1, h2, h3⟩ := SlR.of_own h
  simp only [Value.slice.injEq, true_and] at he
  obtain ⟨rfl, rfl⟩ := he
  exact ⟨h1, by simpa [maxLen] using h2, h3⟩
theorem ModsO.mods {w : World} {rows : List MR} {ms : List Mo} (h : ModsO w rows ms) : Mods w rows ms :=
  ⟨h.1, fun k h1 h2 => ⟨(h.2 k h1 h2).1, (own_row (h.2 k h1 h2).2).1, (own_row (h.2 k h1 h2).2).2.1, (own_row (h.2 k h1 h2).2).2.2⟩⟩
/-- a row of one type of elements abides a growth of a row of another -/
theorem own_two {W W' : World} {b b' : Nat} {e e' : TypeId} {k k' n n' : Nat} {v v' : Value} {xs xs' : List Value} (h : W.ownsRow b e k v n xs) (h' : W.ownsRow b' e' k' v' n' xs') (he : e ≠ e') (hg : W.grownBy W' v'.ownBlock) : W'.ownsRow b e k v n xs := by
  refine ⟨h.1, ?_⟩
  rcases h.2 with h | ⟨g, c', cur, q1, q2, q3, q4⟩
  · exact .inl h
  · refine .inr ⟨g, c', cur, q1, q2, (hg.block g (Array.getElem?_eq_some_iff.1 q3).1 fun hh => ?_).trans q3, q4⟩
    rcases h'.2 with ⟨rfl, _⟩ | ⟨g', _, cur', rfl, _, p3, _⟩
    · cases hh
    · simp only [Value.ownBlock, Option.some.injEq] at hh
      subst hh
      rw [q3] at p3
      simp only [Option.some.injEq, Obj.cells.injEq] at p3
      exact he p3.2.1
theorem ModsO.grown {W W' : World} {b' : Nat} {k' n' : Nat} {v' : Value} {xs' : List Value} {rows : List MR} {ms : List Mo} (h : ModsO W rows ms) (h' : W.ownsRow b' 37 k' v' n' xs') (hg : W.grownBy W' v'.ownBlock) : ModsO W' rows ms :=
  ⟨h.1, fun k h1 h2 => ⟨(h.2 k h1 h2).1, own_two (h.2 k h1 h2).2 h' (by decide) hg⟩⟩
theorem ModsO.bel {W W' : World} {rows : List MR} {ms : List Mo} (h : ModsO W rows ms) (hb : Below W.heap.size W W') : ModsO W' rows ms :=
  ⟨h.1, fun k h1 h2 => ⟨(h.2 k h1 h2).1, own_bel (h.2 k h1 h2).2 hb⟩⟩
theorem ModsO.snoc {w : World} {r : MR} {m : Mo} {rows : List MR} {ms : List Mo} (h : ModsO w rows ms) (h1 : r.id = m.id) (h2 : w.ownsRow 0 27 6 (.slice r.a r.n r.c) r.n (m.items.flatMap cI)) : ModsO w (rows ++ [r]) (ms ++ [m]) := by
  refine ⟨by simp [h.1], fun k a b => ?_⟩
  by_cases hk : k < rows.length
  · have hk' : k < ms.length := by rw [← h.1]; exact hk
    rw [List.getElem_append_left hk, List.getElem_append_left hk']
    exact h.2 k hk hk'
  · have e : k = rows.length := by simp at a; omega
    subst e
    have e2 : rows.length = ms.length := h.1
    simp only [List.getElem_concat_length]
    have hms : (ms ++ [m])[rows.length]'b = m := by simp [e2]
    rw [hms]
    exact ⟨h1, h2⟩
/-- what Replace's loop keeps -/
def RI (B : Nat) (v : Value) (out : List Mo) (wr : World) : Prop := ∃ P : List MR, wr.ownsRow B 37 2 v P.length (P.flatMap cM) ∧ ModsO wr P out
theorem RI.bel {B : Nat} {v : Value} {out : List Mo} {w w' : World} (h : RI B v out w) (hb : Below w.heap.size w w') : RI B v out w' := by
  obtain ⟨P, h1, h2⟩ := h
  exact ⟨P, own_bel h1 hb, h2.bel hb⟩
theorem RI.app {B : Nat} {v v' : Value} {out : List Mo} {W W' : World} {P : List MR} {q : MR} {m : Mo} (h1 : W.ownsRow B 37 2 v P.length (P.flatMap cM)) (h2 : ModsO W P out) (hq : q.id = m.id) (hq2 : W.ownsRow 0 27 6 (.slice q.a q.n q.c) q.n (m.items.flatMap cI))
    (h3 : W'.ownsRow B 37 2 v' (P.length + 1) (P.flatMap cM ++ cM q)) (hg : W.grownBy W' v.ownBlock) : RI B v' (out ++ [m]) W' :=
  ⟨P ++ [q], by rw [List.length_append, flatM_snoc]; exact h3, (h2.grown h1 hg).snoc hq (own_two hq2 h1 (by decide) hg)⟩
theorem own_lt {W : World} {b : Nat} {e : TypeId} {k n : Nat} {v : Value} {xs : List Value} (h : W.ownsRow b e k v n xs) : ∀ g, v.ownBlock = some g → b ≤ g ∧ g < W.heap.size := by
  intro g hg
  rcases h.2 with ⟨rfl, _⟩ | ⟨g', c', cur, rfl, q2, q3, _⟩
  · cases hg
  · simp only [Value.ownBlock, Option.some.injEq] at hg
    subst hg
    exact ⟨q2, (Array.getElem?_eq_some_iff.1 q3).1⟩
theorem rStep_len (next : Mo) (s : List Mo × Bool) (m : Mo) : (rStep next s m).1.length ≤ s.1.length + 2 := by
  unfold rStep
  simp only []
  split <;> split <;> simp
theorem rFold_len (next : Mo) : ∀ (ms : List Mo) (s : List Mo × Bool), (ms.foldl (rStep next) s).1.length ≤ s.1.length + 2 * ms.length
  | [], s => by simp
  | m :: ms, s => by
    have h1 := rFold_len next ms (rStep next s m)
    have h2 := rStep_len next s m
    simp only [List.foldl_cons, List.length_cons]
    omega
def ReplacePost (ms : List Mo) (next : Mo) (w : World) (e : Ending) (w' : World) : Prop :=
  Below w.heap.size w w' ∧ ((validB ms && validB (replL next ms)) = false ∧ e = .returned (.tuple #[.slice none 0 0, .int .i64 140]) ∨
    (validB ms && validB (replL next ms)) = true ∧ ∃ A n c rows, e = .returned (.tuple #[.slice A n c, .int .i64 0]) ∧ n ≤ c ∧ c ≤ 9223372036854775807 ∧ SlR w' w'.heap.size 2 A n (rows.flatMap cM) ∧ Mods w' rows (replL next ms))
set_option maxRecDepth 100000 in
set_option maxHeartbeats 4000000 in
theorem c_Replace (A : Option Addr) (N c : Nat) (rows : List MR) (ms : List Mo) (r : MR) (next : Mo) (w : World) (hN : N ≤ 100000) (hr : SlR w w.heap.size 2 A N (rows.flatMap cM)) (hm : Mods w rows ms)
    (hml : ∀ m ∈ ms, m.items.length ≤ 1000000) (hnl : next.items.length ≤ 1000000) (hid : r.id = next.id) (hrs : SlR w w.heap.size 6 r.a r.n (next.items.flatMap cI)) :
    Calls Tryz.prog 27 #[.slice A N c, mrV r] w (ReplacePost ms next w) := by
  obtain ⟨i0, hi, hz0, hz1, hz2⟩ := info_parts Tryz.infoMod
  have hl := hr.lenm
  have hmm : ms.length = N := by rw [← hm.1]; exact hl
  have hrl := hrs.lenI
  have hA := balloc (Below.refl w.heap.size w) (.cells #[.int .i64 r.id, .slice r.a r.n r.c] 37)
  have gR : Blk (w.alloc (.cells #[.int .i64 r.id, .slice r.a r.n r.c] 37)) w.heap.size 37 (cM r) := Blk.new w 37 (cM r)
  have hr0 := hr.to' hA
  have hm0 := hm.to hA
  have hrs0 := hrs.to' hA
  have HL := hide (And.intro hl (And.intro hmm (And.intro hid hrl)))
  clear hr hm hrs hl hmm hid
  unfold mrV
  go_enter Tryz.func27, Tryz.ntmps27
  go_wp2_with fail
  generalize hw0 : w.alloc (.cells #[.int .i64 r.id, .slice r.a r.n r.c] 37) = w0 at *
  clear hw0
  have hz := gR.lt
  go_loopw [6, 7, 12] (fun v d i wr => ∃ k : Nat, k ≤ N ∧ i = .int .i64 k ∧ d = .bool (rFold next (ms.take k)).2 ∧ RI w0.heap.size v (rFold next (ms.take k)).1 wr ∧ Below w0.heap.size w0 wr) (fun _ _ i _ => N - (intOf i).toNat)
  case atStart => exact ⟨0, Nat.zero_le _, rfl, rfl, ⟨[], World.ownsRow_nil _ _ _ _, ⟨rfl, fun k h => absurd h (by simp)⟩⟩, Below.refl _ _⟩
  case round =>
    obtain ⟨k, hk, rfl, rfl, hri, hb⟩ := hrel
    by_cases hlt : k < N
    · obtain ⟨hl, hmm, hid, hrl⟩ := HL.out
      have hkl : k < rows.length := by omega
      have hkm : k < ms.length := by omega
      obtain ⟨b, off, rfl, hbb, x0, x1⟩ := hr0.atM hb hkl
      obtain ⟨e1, e2, e3, e4⟩ := hm0.2 k hkl hkm
      have hSn := hide (rFold_snoc next ms k hkm)
      have hjk : (k : Int) < (N : Int) := by omega
      have hil := hml ms[k] (List.getElem_mem hkm)
      have hil2 := e4.lenI
      have hrs1 := hrs0.to' hb
      have hfl := rFold_len next (ms.take k) ([], false)
      rw [List.length_take] at hfl
      change (rFold next (ms.take k)).1.length ≤ _ at hfl
      simp only [List.length_nil, Nat.zero_add] at hfl
      obtain ⟨y0, y1⟩ := (gR.below hb hz).two
      have hgr := (gR.below hb hz).lt
      have HID := hide (And.intro e1 hid)
      clear hr0 hm0 hrs0 hml e1 hid hl hmm
      generalize hrk : rows[k] = rk at *
      generalize hmk : ms[k] = mk at *
      clear hrk hmk hkl hkm
      generalize hof : rFold next (ms.take k) = od at *
      obtain ⟨out, done⟩ := od
      simp only [] at hri hfl ⊢
      have hB1 := balloc (Below.refl wr.heap.size wr) (.cells #[.int .i64 rk.id, .slice rk.a rk.n rk.c] 37)
      have gB : Blk (wr.alloc (.cells #[.int .i64 rk.id, .slice rk.a rk.n rk.c] 37)) wr.heap.size 37 (cM rk) := Blk.new wr 37 (cM rk)
      have hbB := bthen hb hB1
      obtain ⟨P, ho0, hmo0⟩ := hri
      have hown := own_lt ho0
      have ho := own_bel ho0 hB1
      have hmo := hmo0.bel hB1
      clear ho0 hmo0
      have hbS := hbB.size
      by_cases hc : r.id ≤ rk.id ∧ done = false
      · obtain ⟨hc1, rfl⟩ := hc
        have hd0 : decide (r.id ≤ rk.id) = true := by simpa using hc1
        have hPl : P.length ≤ 300000 := by have := hmo.1; omega
        have hsB := hrs1.to' hB1
        go_upto_region 9 with (first | (go_at_call 68; refine (c_copied r next.items _ (by omega) hsB).mono ?_; rintro e w5 ⟨q, rfl, hq1, hq2, hb5⟩; have HQ1 := hide hq1; clear hq1; have ho5 := own_bel ho hb5; have hm5 := hmo.bel hb5; have gA := (Blk.new w5 37 (cM q)).slr (k := 2) (n := 1) rfl) | (at_builtin; refine wpList_append_sl (size := 2) rfl _ _ 28 rfl w0.heap.size 37 i0 zM 32 Tryz.underlying28 hi hz0 hz1 hz2 rfl (by decide) _ P.length (P.flatMap cM) rfl (ho5.alloc _) 1 1 (cM q) rfl gA (Below.refl _ _) (fun u hu => oneM [q] u (by simpa using hu)) (by unfold maxLen; omega) (by omega) (by have := hb5.size; have := hbS; simp; omega) ?_; intro v6 w6 ho6 hg6 hor6))
        have hri6 := RI.app (ho5.alloc (.cells #[.int .i64 q.id, .slice q.a q.n q.c] 37)) (hm5.bel (balloc (Below.refl _ _) _)) (HQ1.out.trans HID.out.2) (own_bel hq2 (balloc (Below.refl _ _) _)) ho6 hg6
        have hbX0 : Below w0.heap.size w0 w6 := (balloc (bthen hbB hb5) (.cells #[.int .i64 q.id, .slice q.a q.n q.c] 37)).grown hg6 (by have := hb5.size; simp; omega) (fun g e => (own_lt ho g e).1)
        have gX : Blk w6 wr.heap.size 37 (cM rk) := ((gB.below hb5 gB.lt).alloc (.cells #[.int .i64 q.id, .slice q.a q.n q.c] 37)).grown hg6 (fun e => by have := (hown _ e).2; omega)
        clear ho hmo ho5 hm5 gA ho6 hg6 hor6 HQ1 hq2 hb5 hPl hsB hbS
        obtain ⟨P, ho, hmo⟩ := hri6
        have hPl : P.length ≤ 300000 := by have := hmo.1; (try simp only [List.length_append, List.length_cons, List.length_nil] at this); omega
        have e4X := e4.to' hbX0
        obtain ⟨z0, z1⟩ := gX.two
        have hzl := gX.lt
        obtain ⟨y0, y1⟩ := (gR.below hbX0 hz).two
        have hgrX := (gR.below hbX0 hz).lt
        have hbS := hbX0.size
        by_cases hne : rk.id = r.id
        · have hd1 : (rk.id != r.id) = false := by simp [hne]
          have HE := hide (show rStep next (out, false) mk = ((out ++ [next]), true) by
            rw [rStep_a (by rw [← HID.out.1, ← HID.out.2]; exact hc1)]
            rw [if_pos (by rw [← HID.out.1, ← HID.out.2]; exact hne)])
          clear hne
          go_wp2_with fail
          go_roundw
          case rel => exact ⟨k + 1, by omega, by go_num, by rw [hSn.out, HE.out], by rw [hSn.out, HE.out]; exact ⟨P, ho, hmo⟩, hbX0⟩
          case measure => simp [intOf]; omega
        · have hd1 : (rk.id != r.id) = true := by simpa using hne
          have HE := hide (show rStep next (out, false) mk = ((out ++ [next]) ++ [mk], true) by
            rw [rStep_a (by rw [← HID.out.1, ← HID.out.2]; exact hc1)]
            rw [if_neg (by rw [← HID.out.1, ← HID.out.2]; exact hne)])
          clear hne
          go_wp2_with (first | (go_at_call 68; refine (c_copied rk mk.items _ (by omega) e4X).mono ?_; rintro e w5 ⟨q, rfl, hq1, hq2, hb5⟩; have HQ1 := hide hq1; clear hq1; have ho5 := own_bel ho hb5; have hm5 := hmo.bel hb5; have gA := (Blk.new w5 37 (cM q)).slr (k := 2) (n := 1) rfl) | (at_builtin; refine wpList_append_sl (size := 2) rfl _ _ 28 rfl w0.heap.size 37 i0 zM 32 Tryz.underlying28 hi hz0 hz1 hz2 rfl (by decide) _ P.length (P.flatMap cM) rfl (ho5.alloc _) 1 1 (cM q) rfl gA (Below.refl _ _) (fun u hu => oneM [q] u (by simpa using hu)) (by unfold maxLen; omega) (by omega) (by have := hb5.size; have := hbS; simp; omega) ?_; intro v6 w7 ho6 hg6 hor6))
          have hri7 := RI.app (ho5.alloc (.cells #[.int .i64 q.id, .slice q.a q.n q.c] 37)) (hm5.bel (balloc (Below.refl _ _) _)) (HQ1.out.trans HID.out.1) (own_bel hq2 (balloc (Below.refl _ _) _)) ho6 hg6
          have hb7 : Below w0.heap.size w0 w7 := (balloc (bthen hbX0 hb5) (.cells #[.int .i64 q.id, .slice q.a q.n q.c] 37)).grown hg6 (by have := hb5.size; simp; omega) (fun g e => (own_lt ho g e).1)
          go_roundw
          case rel => exact ⟨k + 1, by omega, by go_num, by rw [hSn.out, HE.out], by rw [hSn.out, HE.out]; exact hri7, hb7⟩
          case measure => simp [intOf]; omega
      · have hbX0 := hbB
        have gX := gB
        have hd0 : (decide (r.id ≤ rk.id) && !done) = false := by
          rw [Bool.eq_false_iff]
          intro h
          simp only [Bool.and_eq_true, decide_eq_true_eq, Bool.not_eq_true'] at h
          exact hc h
        by_cases hc1 : r.id ≤ rk.id
        · have hd2 : decide (r.id ≤ rk.id) = true := by simpa using hc1
          obtain rfl : done = true := by
            cases done
            · exact absurd ⟨hc1, rfl⟩ hc
            · rfl
          clear hd0
          have hPl : P.length ≤ 300000 := by have := hmo.1; (try simp only [List.length_append, List.length_cons, List.length_nil] at this); omega
          have e4X := e4.to' hbX0
          obtain ⟨z0, z1⟩ := gX.two
          have hzl := gX.lt
          obtain ⟨y0, y1⟩ := (gR.below hbX0 hz).two
          have hgrX := (gR.below hbX0 hz).lt
          have hbS := hbX0.size
          by_cases hne : rk.id = r.id
          · have hd1 : (rk.id != r.id) = false := by simp [hne]
            have HE := hide (show rStep next (out, true) mk = (out, true) by
              rw [rStep_b (by rw [← HID.out.1, ← HID.out.2]; exact hc)]
              rw [if_pos (by rw [← HID.out.1, ← HID.out.2]; exact hne)])
            clear hne
            go_wp2_with fail
            go_roundw
            case rel => exact ⟨k + 1, by omega, by go_num, by rw [hSn.out, HE.out], by rw [hSn.out, HE.out]; exact ⟨P, ho, hmo⟩, hbX0⟩
            case measure => simp [intOf]; omega
          · have hd1 : (rk.id != r.id) = true := by simpa using hne
            have HE := hide (show rStep next (out, true) mk = (out ++ [mk], true) by
              rw [rStep_b (by rw [← HID.out.1, ← HID.out.2]; exact hc)]
              rw [if_neg (by rw [← HID.out.1, ← HID.out.2]; exact hne)])
            clear hne
            go_wp2_with (first | (go_at_call 68; refine (c_copied rk mk.items _ (by omega) e4X).mono ?_; rintro e w5 ⟨q, rfl, hq1, hq2, hb5⟩; have HQ1 := hide hq1; clear hq1; have ho5 := own_bel ho hb5; have hm5 := hmo.bel hb5; have gA := (Blk.new w5 37 (cM q)).slr (k := 2) (n := 1) rfl) | (at_builtin; refine wpList_append_sl (size := 2) rfl _ _ 28 rfl w0.heap.size 37 i0 zM 32 Tryz.underlying28 hi hz0 hz1 hz2 rfl (by decide) _ P.length (P.flatMap cM) rfl (ho5.alloc _) 1 1 (cM q) rfl gA (Below.refl _ _) (fun u hu => oneM [q] u (by simpa using hu)) (by unfold maxLen; omega) (by omega) (by have := hb5.size; have := hbS; simp; omega) ?_; intro v6 w7 ho6 hg6 hor6))
            have hri7 := RI.app (ho5.alloc (.cells #[.int .i64 q.id, .slice q.a q.n q.c] 37)) (hm5.bel (balloc (Below.refl _ _) _)) (HQ1.out.trans HID.out.1) (own_bel hq2 (balloc (Below.refl _ _) _)) ho6 hg6
            have hb7 : Below w0.heap.size w0 w7 := (balloc (bthen hbX0 hb5) (.cells #[.int .i64 q.id, .slice q.a q.n q.c] 37)).grown hg6 (by have := hb5.size; simp; omega) (fun g e => (own_lt ho g e).1)
            go_roundw
            case rel => exact ⟨k + 1, by omega, by go_num, by rw [hSn.out, HE.out], by rw [hSn.out, HE.out]; exact hri7, hb7⟩
            case measure => simp [intOf]; omega
        · have hd2 : decide (r.id ≤ rk.id) = false := by simpa using hc1
          clear hd0
          have hPl : P.length ≤ 300000 := by have := hmo.1; (try simp only [List.length_append, List.length_cons, List.length_nil] at this); omega
          have e4X := e4.to' hbX0
          obtain ⟨z0, z1⟩ := gX.two
          have hzl := gX.lt
          obtain ⟨y0, y1⟩ := (gR.below hbX0 hz).two
          have hgrX := (gR.below hbX0 hz).lt
          have hbS := hbX0.size
          by_cases hne : rk.id = r.id
          · have hd1 : (rk.id != r.id) = false := by simp [hne]
            have HE := hide (show rStep next (out, done) mk = (out, done) by
              rw [rStep_b (by rw [← HID.out.1, ← HID.out.2]; exact hc)]
              rw [if_pos (by rw [← HID.out.1, ← HID.out.2]; exact hne)])
            clear hne
            go_wp2_with fail
            go_roundw
            case rel => exact ⟨k + 1, by omega, by go_num, by rw [hSn.out, HE.out], by rw [hSn.out, HE.out]; exact ⟨P, ho, hmo⟩, hbX0⟩
            case measure => simp [intOf]; omega
          · have hd1 : (rk.id != r.id) = true := by simpa using hne
            have HE := hide (show rStep next (out, done) mk = (out ++ [mk], done) by
              rw [rStep_b (by rw [← HID.out.1, ← HID.out.2]; exact hc)]
              rw [if_neg (by rw [← HID.out.1, ← HID.out.2]; exact hne)])
            clear hne
            go_wp2_with (first | (go_at_call 68; refine (c_copied rk mk.items _ (by omega) e4X).mono ?_; rintro e w5 ⟨q, rfl, hq1, hq2, hb5⟩; have HQ1 := hide hq1; clear hq1; have ho5 := own_bel ho hb5; have hm5 := hmo.bel hb5; have gA := (Blk.new w5 37 (cM q)).slr (k := 2) (n := 1) rfl) | (at_builtin; refine wpList_append_sl (size := 2) rfl _ _ 28 rfl w0.heap.size 37 i0 zM 32 Tryz.underlying28 hi hz0 hz1 hz2 rfl (by decide) _ P.length (P.flatMap cM) rfl (ho5.alloc _) 1 1 (cM q) rfl gA (Below.refl _ _) (fun u hu => oneM [q] u (by simpa using hu)) (by unfold maxLen; omega) (by omega) (by have := hb5.size; have := hbS; simp; omega) ?_; intro v6 w7 ho6 hg6 hor6))
            have hri7 := RI.app (ho5.alloc (.cells #[.int .i64 q.id, .slice q.a q.n q.c] 37)) (hm5.bel (balloc (Below.refl _ _) _)) (HQ1.out.trans HID.out.1) (own_bel hq2 (balloc (Below.refl _ _) _)) ho6 hg6
            have hb7 : Below w0.heap.size w0 w7 := (balloc (bthen hbX0 hb5) (.cells #[.int .i64 q.id, .slice q.a q.n q.c] 37)).grown hg6 (by have := hb5.size; simp; omega) (fun g e => (own_lt ho g e).1)
            go_roundw
            case rel => exact ⟨k + 1, by omega, by go_num, by rw [hSn.out, HE.out], by rw [hSn.out, HE.out]; exact hri7, hb7⟩
            case measure => simp [intOf]; omega
    · obtain rfl : N = k := by omega
      obtain ⟨hl, hmm, hid, hrl⟩ := HL.out
      have htk : ms.take N = ms := by rw [← hmm, List.take_length]
      rw [htk] at hri ⊢
      have hfl := rFold_len next ms ([], false)
      change (rFold next ms).1.length ≤ _ at hfl
      simp only [List.length_nil, Nat.zero_add] at hfl
      have HRP := hide (show replL next ms = if (rFold next ms).2 then (rFold next ms).1 else (rFold next ms).1 ++ [next] from rfl)
      generalize rFold next ms = od at *
      obtain ⟨out, done⟩ := od
      simp only [] at hri hfl HRP ⊢
      have hrs1 := hrs0.to' hb
      have hbS := hb.size
      have hol : out.length ≤ 300000 := by omega
      have HID := hide hid
      clear hl hmm hid hml htk hrs0
      obtain ⟨P, ho, hmo⟩ := hri
      obtain ⟨y0, y1⟩ := (gR.below hb hz).two
      have hgr := (gR.below hb hz).lt
      cases done with
      | true =>
        have HRQ := hide (show replL next ms = out by rw [HRP.out]; rfl)
        have hri7 : RI w0.heap.size u6 out wr := ⟨P, ho, hmo⟩
        obtain ⟨w7, hw7⟩ : ∃ w7, w7 = wr := ⟨_, rfl⟩
        subst hw7
        have hb7 := hb
        clear ho hmo
        obtain ⟨P, ho, hmo⟩ := hri7
        have hPl : P.length ≤ 300001 := by have := hmo.1; (try simp only [List.length_append, List.length_cons, List.length_nil] at this); omega
        obtain ⟨Ap, cp, rfl, hp1, hp2, hp3⟩ := SlR.of_own ho
        have hcp : cp ≤ 9223372036854775807 := by simpa [maxLen] using hp2
        have hmods := hmo.mods
        clear ho hmo hrs1 y0 y1
        go_wp2_with fail
        refine (c_Valid A N c rows ms _ (by omega) (hr0.to' hb7) (hm0.to hb7)).mono ?_
        rintro e w8 ⟨rfl, hb8⟩
        have hb08 := bthen hA (bthen hb7 hb8)
        have hp4 := hp3.to' hb8
        have hm4 := hmods.to hb8
        clear hr0 hm0 hp3 hmods
        cases hV : validB ms with
        | false =>
          have HV := hide hV
          clear hV
          go_wp2
          go_ret2
          exact ⟨hb08, .inl ⟨by rw [HV.out]; rfl, rfl⟩⟩
        | true =>
          have HV := hide hV
          clear hV
          go_wp2_with fail
          refine (c_Valid Ap P.length cp P out _ (by omega) hp4 hm4).mono ?_
          rintro e w9 ⟨rfl, hb9⟩
          have hb09 := bthen hb08 hb9
          have hp5 := hp4.to' hb9
          have hm5 := hm4.to hb9
          have HF := hide (And.intro hp5 hm5)
          clear hp4 hm4 hp5 hm5
          cases hW : validB out with
          | false =>
            have HW := hide hW
            clear hW
            go_wp2
            go_ret2
            exact ⟨hb09, .inl ⟨by rw [HRQ.out, HW.out]; simp, rfl⟩⟩
          | true =>
            have HW := hide hW
            clear hW
            go_wp2
            go_ret2
            exact ⟨hb09, .inr ⟨by rw [HRQ.out, HW.out, HV.out]; rfl, Ap, _, cp, P, rfl, hp1, hcp, HF.out.1, by rw [HRQ.out]; exact HF.out.2⟩⟩
      | false =>
        have HRQ := hide (show replL next ms = out ++ [next] by rw [HRP.out]; rfl)
        have hPl : P.length ≤ 300000 := by have := hmo.1; omega
        go_upto_region 14 with (first | (go_at_call 68; refine (c_copied r next.items _ (by omega) hrs1).mono ?_; rintro e w5 ⟨q, rfl, hq1, hq2, hb5⟩; have HQ1 := hide hq1; clear hq1; have ho5 := own_bel ho hb5; have hm5 := hmo.bel hb5; have gA := (Blk.new w5 37 (cM q)).slr (k := 2) (n := 1) rfl) | (at_builtin; refine wpList_append_sl (size := 2) rfl _ _ 28 rfl w0.heap.size 37 i0 zM 32 Tryz.underlying28 hi hz0 hz1 hz2 rfl (by decide) _ P.length (P.flatMap cM) rfl (ho5.alloc _) 1 1 (cM q) rfl gA (Below.refl _ _) (fun u hu => oneM [q] u (by simpa using hu)) (by unfold maxLen; omega) (by omega) (by have := hb5.size; have := hbS; simp; omega) ?_; intro v6 w7 ho6 hg6 hor6))
        have hri7 := RI.app (ho5.alloc (.cells #[.int .i64 q.id, .slice q.a q.n q.c] 37)) (hm5.bel (balloc (Below.refl _ _) _)) (HQ1.out.trans HID.out) (own_bel hq2 (balloc (Below.refl _ _) _)) ho6 hg6
        have hb7 : Below w0.heap.size w0 w7 := (balloc (bthen hb hb5) (.cells #[.int .i64 q.id, .slice q.a q.n q.c] 37)).grown hg6 (by have := hb5.size; simp; omega) (fun g e => (own_lt ho g e).1)
        clear ho hmo ho5 hm5 gA ho6 hg6 hor6 HQ1 hq2 hb5 hPl
        obtain ⟨P, ho, hmo⟩ := hri7
        have hPl : P.length ≤ 300001 := by have := hmo.1; (try simp only [List.length_append, List.length_cons, List.length_nil] at this); omega
        obtain ⟨Ap, cp, rfl, hp1, hp2, hp3⟩ := SlR.of_own ho
        have hcp : cp ≤ 9223372036854775807 := by simpa [maxLen] using hp2
        have hmods := hmo.mods
        clear ho hmo hrs1 y0 y1
        go_wp2_with fail
        refine (c_Valid A N c rows ms _ (by omega) (hr0.to' hb7) (hm0.to hb7)).mono ?_
        rintro e w8 ⟨rfl, hb8⟩
        have hb08 := bthen hA (bthen hb7 hb8)
        have hp4 := hp3.to' hb8
        have hm4 := hmods.to hb8
        clear hr0 hm0 hp3 hmods
        cases hV : validB ms with
        | false =>
          have HV := hide hV
          clear hV
          go_wp2
          go_ret2
          exact ⟨hb08, .inl ⟨by rw [HV.out]; rfl, rfl⟩⟩
        | true =>
          have HV := hide hV
          clear hV
          go_wp2_with fail
          refine (c_Valid Ap P.length cp P (out ++ [next]) _ (by omega) hp4 hm4).mono ?_
          rintro e w9 ⟨rfl, hb9⟩
          have hb09 := bthen hb08 hb9
          have hp5 := hp4.to' hb9
          have hm5 := hm4.to hb9
          have HF := hide (And.intro hp5 hm5)
          clear hp4 hm4 hp5 hm5
          cases hW : validB (out ++ [next]) with
          | false =>
            have HW := hide hW
            clear hW
            go_wp2
            go_ret2
            exact ⟨hb09, .inl ⟨by rw [HRQ.out, HW.out]; simp, rfl⟩⟩
          | true =>
            have HW := hide hW
            clear hW
            go_wp2
            go_ret2
            exact ⟨hb09, .inr ⟨by rw [HRQ.out, HW.out, HV.out]; rfl, Ap, _, cp, P, rfl, hp1, hcp, HF.out.1, by rw [HRQ.out]; exact HF.out.2⟩⟩
end Go.Proofs.YtncdombfhcfobaaGreat
