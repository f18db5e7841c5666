/- Contracts of Proper and what it calls. -/
import Derived.Test.YtenhghkiapkejaaW7
namespace Go.Proofs.Ytenhghkiapkejaa
open Go.RowKit
/-- is this meeting proper, for these skews -/
def meetOk (l : List I3) (m : I4) : Bool :=
  (bndF l m.1).isSome && ((bndF l m.2.2.1).isSome && (!(m.1 == m.2.2.1) && (inB m.2.1 0 1000000 && inB m.2.2.2 0 1000000)))
theorem bpL_get (l : List I3) (p : Int) : ∃ lo hi : Int, ((.tuple #[((bpL l).lookup p).getD (.agg #[.int .i64 0, .int .i64 0]), .bool ((bpL l).lookup p).isSome] : Value)) = .tuple #[.agg #[.int .i64 lo, .int .i64 hi], .bool (bndF l p).isSome] := by
  rw [bpL_lookup]
  cases bndF l p with
  | none => exact ⟨0, 0, rfl⟩
  | some b => exact ⟨b.1, b.2, rfl⟩
set_option maxRecDepth 100000 in
set_option maxHeartbeats 800000 in
theorem f47 (l : List I3) (m : I4) (bx b : Nat) (w : World) (hbx : w.cell? ⟨bx, 0, none⟩ = some (.map (some b))) (him : IM w b (bpL l)) :
    Calls Try.prog 47 #[.agg #[.int .i64 m.1, .int .i64 m.2.1, .int .i64 m.2.2.1, .int .i64 m.2.2.2], .pointer (some ⟨bx, 0, none⟩)] w fun e w' => e = .returned (.bool (!meetOk l m)) ∧ Below w.heap.size w w' := by
  obtain ⟨A, tA, B, tB⟩ := m
  have hbl := World.block_lt_of_cell? w _ hbx
  simp only [] at hbl
  obtain ⟨la, ha, hA⟩ := bpL_get l A
  obtain ⟨lb, hb, hB⟩ := bpL_get l B
  have hdef : meetOk l (A, tA, B, tB) = ((bndF l A).isSome && ((bndF l B).isSome && (!(A == B) && (inB tA 0 1000000 && inB tB 0 1000000)))) := rfl
  have H := hide (And.intro hA (And.intro hB hdef))
  clear hA hB hdef
  generalize (bndF l A).isSome = ba at *
  generalize (bndF l B).isSome = bb at *
  go_enter Try.func47, Try.ntmps47
  go_wp2_with (first | (at_lookup; refine wpList_lookup_im rfl _ _ 84 true rfl 3 88 _ Try.underlying84 Try.underlying3 (zv88 _) rfl (him.alloc _) _ rfl _ H.out.1 ?_) | (at_lookup; refine wpList_lookup_im rfl _ _ 84 true rfl 3 88 _ Try.underlying84 Try.underlying3 (zv88 _) rfl ((him.alloc _).alloc _) _ rfl _ H.out.2.1 ?_) | (go_at_call 40; refine (f40 _ _).mono ?_; rintro e w' ⟨rfl, rfl⟩))
  all_goals go_ret
  all_goals refine ⟨ret_bool ?_, balloc (balloc (balloc (Below.refl _ _) _) _) _⟩
  all_goals rw [H.out.2.2]
  all_goals simp_all


set_option maxRecDepth 100000 in
set_option maxHeartbeats 800000 in
theorem f59 (L : List I3) (A : Option Addr) (l : List I4) (c bx b : Nat) (w : World) (hn : l.length ≤ c) (hc : c ≤ 9223372036854775807) (hr : SlR w w.heap.size 4 A l.length (l.flatMap c4))
    (hbx : w.cell? ⟨bx, 0, none⟩ = some (.map (some b))) (him : IM w b (bpL L)) :
    Calls Try.prog 59 #[.slice A l.length c, .func (.func 47) #[] #[.pointer (some ⟨bx, 0, none⟩)]] w fun e w' => ∃ r : Int, e = .returned (.int .i64 r) ∧ (0 ≤ r ↔ l.any (fun m => !meetOk L m) = true) ∧ Below w.heap.size w w' := by
  have hbl := World.block_lt_of_cell? w _ hbx
  simp only [] at hbl
  have hil := him.lt
  have HB := hide (And.intro hbx him)
  clear hbx him
  go_enter Try.func59, Try.ntmps59
  go_wp2
  go_loopw [8] (fun i wr => ∃ (k : Nat), k ≤ l.length ∧ i = .int .i64 k ∧ (l.take k).any (fun m => !meetOk L m) = false ∧ Below w.heap.size w wr) (fun i _ => l.length - (intOf i).toNat)
  case atStart => exact ⟨0, Nat.zero_le _, rfl, rfl, Below.refl _ _⟩
  case round =>
    obtain ⟨k, hk, rfl, hany, hb⟩ := hrel
    by_cases hlt : k < l.length
    · obtain ⟨bk, off, rfl, hbb, hx0, hx1, hx2, hx3⟩ := hr.at4 hb hlt
      have HG := hide (List.getElem_mem hlt)
      have H := hide (And.intro hany (List.take_succ_eq_append_getElem hlt))
      clear hr hany
      generalize l[k] = m at *
      obtain ⟨m0, m1, m2, m3⟩ := m
      simp only [] at hx0 hx1 hx2 hx3
      go_wp2_with fail
      refine (f47 L (m0, m1, m2, m3) bx b _ ((hb.cell (p := ⟨bx, 0, none⟩) hbl).trans HB.out.1) (HB.out.2.below hb hil)).mono ?_
      rintro e w1 ⟨rfl, hb1⟩
      have hb2 := bthen hb hb1
      clear hb1
      by_cases hok : meetOk L (m0, m1, m2, m3) = true
      · go_wp2
        go_roundw
        case rel =>
          obtain ⟨h1, h2⟩ := H.out
          exact ⟨k + 1, by omega, by go_num, by rw [h2, List.any_append, h1]; simp [hok], hb2⟩
        case measure => simp [intOf]; omega
      · have hok' : meetOk L (m0, m1, m2, m3) = false := by simpa using hok
        clear hok
        go_wp2
        go_ret
        have hg := HG.out
        exact ⟨_, rfl, ⟨fun _ => List.any_eq_true.2 ⟨_, hg, by simp [hok']⟩, fun _ => by omega⟩, hb2⟩
    · obtain rfl : k = l.length := by omega
      rw [List.take_length] at hany
      have H := hide hany
      clear hany hr
      go_wp2
      go_ret
      have h := H.out
      exact ⟨_, rfl, ⟨fun h0 => absurd h0 (by omega), fun h1 => by rw [h] at h1; cases h1⟩, hb⟩

set_option maxHeartbeats 400000 in
theorem f46 (L : List I3) (A : Option Addr) (l : List I4) (c bx b : Nat) (w : World) (hn : l.length ≤ c) (hc : c ≤ 9223372036854775807) (hr : SlR w w.heap.size 4 A l.length (l.flatMap c4))
    (hbx : w.cell? ⟨bx, 0, none⟩ = some (.map (some b))) (him : IM w b (bpL L)) :
    Calls Try.prog 46 #[.slice A l.length c, .func (.func 47) #[] #[.pointer (some ⟨bx, 0, none⟩)]] w fun e w' => e = .returned (.bool (l.any fun m => !meetOk L m)) ∧ Below w.heap.size w w' := by
  have HB := hide (And.intro hbx him)
  clear hbx him
  go_enter Try.func46, Try.ntmps46
  go_wp2_with fail
  refine (f59 L A l c bx b _ hn hc hr HB.out.1 HB.out.2).mono ?_
  rintro e w1 ⟨r, rfl, hr1, hb1⟩
  have H := hide hr1
  clear hr1 hr
  go_wp2
  go_ret
  refine ⟨ret_bool ?_, hb1⟩
  have h := H.out
  by_cases h0 : 0 ≤ r
  · rw [h.1 h0]; simpa using h0
  · have : ¬ (l.any fun m => !meetOk L m) = true := fun hh => h0 (h.2 hh)
    simp only [Bool.not_eq_true] at this
    rw [this]; simpa using h0

/-- are these skews and meetings proper -/
def proper (L : List I3) (l : List I4) : Bool := skOk (-1) L && (decide (l.length ≤ 60) && !(l.any fun m => !meetOk L m))
set_option maxHeartbeats 400000 in
theorem f27 (A B : Option Addr) (L : List I3) (l : List I4) (c d : Nat) (w : World) (hn : L.length ≤ c) (hc : c ≤ 9223372036854775807) (hm : l.length ≤ d) (hd : d ≤ 9223372036854775807)
    (hr : SlR w w.heap.size 3 A L.length (L.flatMap c3)) (hs : SlR w w.heap.size 4 B l.length (l.flatMap c4)) :
    Calls Try.prog 27 #[.slice A L.length c, .slice B l.length d] w fun e w' => e = .returned (.bool (proper L l)) ∧ Below w.heap.size w w' := by
  go_enter Try.func27, Try.ntmps27
  go_wp2_with fail
  refine (f44 A L c _ hn hc hr).mono ?_
  rintro e w1 ⟨rfl, hb1⟩
  have hr1 := hr.to hb1
  have hs1 := hs.to hb1
  have hs1' := hide hs1
  clear hr hs hs1
  by_cases hsk : skOk (-1) L = true
  · by_cases h60 : l.length ≤ 60
    · go_wp2_with fail
      refine (f45 A L c _ hn hc hr1).mono ?_
      rintro e w2 ⟨b, rfl, hbb, him, hb2⟩
      have hs2 := (hs1'.out.to hb2).to (balloc (Below.refl _ _) (.cells #[.map (some b)] 84))
      have hb3 := balloc (bthen hb1 hb2) (.cells #[.map (some b)] 84)
      have him2 := him.alloc (.cells #[.map (some b)] 84)
      have HB := hide (And.intro hs2 him2)
      clear hb2 hs2 him him2
      go_wp2_with fail
      refine (f46 L B l d _ b _ hm hd HB.out.1 (by go_simp) HB.out.2).mono ?_
      rintro e w3 ⟨rfl, hb4⟩
      go_wp2
      go_ret
      exact ⟨ret_bool (by simp [proper, hsk, h60]), bthen hb3 hb4⟩
    · clear hr1
      go_wp2
      go_ret
      exact ⟨ret_bool (by simp [proper, hsk]; omega), hb1⟩
  · have hsk' : skOk (-1) L = false := by simpa using hsk
    clear hsk hr1
    go_wp2
    go_ret
    exact ⟨ret_bool (by simp [proper, hsk']), hb1⟩
end Go.Proofs.Ytenhghkiapkejaa
