/- Contract of the reference's Tight. -/
import Derived.Test.YtenhghkiapkejaaR6
namespace Go.Proofs.Ytenhghkiapkejaa
open Go.RowKit
theorem TO.of {L : List I3} {l : List I4} {s t : I3} (h : TOne L l s t) : TO L l s t := by
  obtain ⟨h1, ⟨D, hD⟩, h2, h3, h4⟩ := h
  exact ⟨h1, hD.not_bad, h2, h3, h4⟩
theorem TOk.of {L : List I3} {l : List I4} {out : List I3} (h : TightOk L l out) : TOk L l out := ⟨h.1, fun k h1 h2 => TO.of (h.2 k h1 h2)⟩
theorem TBd.of {L : List I3} {l : List I4} (h : TightBad L l) : TBd L l := by
  obtain ⟨s, hs, h⟩ := h
  refine ⟨s, hs, ?_⟩
  rcases h with h | ⟨lo, hi, _, h1, h2, h3⟩
  · exact .inl h
  · exact .inr ⟨lo, hi, h1, h2, h3⟩
theorem TOk.not_bd {L : List I3} {l l' : List I4} {out : List I3} (hsub : ∀ m ∈ l, m ∈ l') (h : TOk L l' out) : ¬ TBd L l := by
  rintro ⟨s, hs, hn⟩
  obtain ⟨k, hk, rfl⟩ := List.getElem_of_mem hs
  obtain ⟨_, t1, t2, t3, t4⟩ := h.2 k hk (by rw [h.1]; exact hk)
  rcases hn with hb | ⟨lo, hi, h1, h2, h3⟩
  · exact t1 (bad_mono hsub hb)
  · have := low_mono hsub h1 t2
    have := high_mono hsub h2 t3
    omega
theorem TOk.uniq {L : List I3} {l : List I4} {out out' : List I3} (h : TOk L l out) (h' : TOk L l out') : out = out' := by
  apply List.ext_getElem
  · rw [h.1, h'.1]
  · intro k k1 k2
    have hk : k < L.length := by rw [← h.1]; exact k1
    obtain ⟨a1, _, a2, a3, _⟩ := h.2 k hk k1
    obtain ⟨b1, _, b2, b3, _⟩ := h'.2 k hk k2
    have e2 := a2.uniq b2
    have e3 := a3.uniq b3
    have e1 : out[k].1 = out'[k].1 := by rw [a1, b1]
    generalize out[k] = x at *
    generalize out'[k] = y at *
    obtain ⟨x1, x2, x3⟩ := x
    obtain ⟨y1, y2, y3⟩ := y
    simp only [] at e1 e2 e3
    rw [e1, e2, e3]
def RTPost (L : List I3) (l : List I4) (w : World) (e : Ending) (w' : World) : Prop :=
  Below w.heap.size w w' ∧ ((proper L l = false ∧ e = .returned (.tuple #[.slice none 0 0, .int .i64 0, .int .i64 60])) ∨
    (proper L l = true ∧ ∃ v out, e = .returned (.tuple #[v, .int .i64 (-1), .int .i64 0]) ∧ w'.ownsRow w.heap.size 41 3 v out.length (out.flatMap c3) ∧ TOk L l out) ∨
    (proper L l = true ∧ ∃ k : Nat, e = .returned (.tuple #[.slice none 0 0, .int .i64 k, .int .i64 0]) ∧ k < l.length ∧ TBd L (l.take (k + 1)) ∧ ∀ i, 1 ≤ i → i ≤ k → ∃ out, TOk L (l.take i) out))
theorem f28v {b : Bool} {L : List I3} {l : List I4} (h : proper L l = b) (A B : Option Addr) (c d : Nat) (w : World) (hn : L.length ≤ c) (hc : c ≤ 9223372036854775807)
    (hr : SlR w w.heap.size 3 A L.length (L.flatMap c3)) (hs : SlR w w.heap.size 4 B l.length (l.flatMap c4)) (hll : l.length ≤ 9223372036854775807) :
    Calls Try.prog 28 #[.slice A L.length c, .slice B l.length d] w fun e w' => e = .returned (.bool b) ∧ Below w.heap.size w w' := by
  subst h; exact f28 A B L l c d w hn hc hr hs hll
theorem f43n {n : Nat} {l : List I4} (hl : l.length = n) (A B : Option Addr) (L : List I3) (c d : Nat) (w : World) (hn : L.length ≤ c) (hc : c ≤ 9223372036854775807) (hpr : proper L l = true) (h8 : n ≤ 8) (hL : L.length ≤ 100)
    (hr : SlR w w.heap.size 3 A L.length (L.flatMap c3)) (hs : SlR w w.heap.size 4 B n (l.flatMap c4)) :
    Calls Try.prog 43 #[.slice A L.length c, .slice B n d] w (RtPost L l w) := by
  subst hl; exact f43 A B L l c d w hn hc hpr h8 hL hr hs
set_option maxRecDepth 100000 in
set_option maxHeartbeats 1000000 in
theorem f25 (A B : Option Addr) (L : List I3) (l : List I4) (c d : Nat) (w : World) (hn : L.length ≤ c) (hc : c ≤ 9223372036854775807) (hm : l.length ≤ d) (h8 : l.length ≤ 8) (hL : L.length ≤ 100)
    (hr : SlR w w.heap.size 3 A L.length (L.flatMap c3)) (hs : SlR w w.heap.size 4 B l.length (l.flatMap c4)) :
    Calls Try.prog 25 #[.slice A L.length c, .slice B l.length d] w (RTPost L l w) := by
  obtain ⟨i0, hi, _, _, _⟩ := info_parts Try.info43
  go_enter Try.func25, Try.ntmps25
  go_wp2_with fail
  cases hpr : proper L l
  · refine (f28v hpr A B c d w hn hc hr hs (by omega)).mono ?_
    rintro e w1 ⟨rfl, hb1⟩
    have HP := hide hpr
    clear hpr
    go_wp2_with fail
    go_ret3
    exact ⟨hb1, .inl ⟨HP.out, rfl⟩⟩
  · refine (f28v hpr A B c d w hn hc hr hs (by omega)).mono ?_
    rintro e w1 ⟨rfl, hb1⟩
    have HP := hide hpr
    clear hpr
    go_wp2_with fail
    go_loopw [7] (fun i wr => ∃ k : Nat, k ≤ l.length ∧ i = .int .i64 k ∧ (∀ j, 1 ≤ j → j ≤ k → ∃ out, TOk L (l.take j) out) ∧ Below w.heap.size w wr) (fun i _ => l.length - (intOf i).toNat)
    case atStart => exact ⟨0, Nat.zero_le _, rfl, fun j h1 h2 => absurd h1 (by omega), hb1⟩
    case round =>
      obtain ⟨k, hk, rfl, hok, hb⟩ := hrel
      have HK := hide hok
      clear hok
      by_cases hlt : k < l.length
      · obtain ⟨A2, hs2, hr2⟩ := hs.cutHi hm (show k + 1 ≤ l.length by omega) 46 43 i0 Try.underlying46 hi
        rw [flat_take c4 4 (fun _ => rfl)] at hs2
        have hlj : (l.take (k + 1)).length = k + 1 := by rw [List.length_take]; omega
        have hr2' : ∀ w, (Instr.slice 46 (.slice B l.length d) none (some (.int .i64 ((k : Int) + 1))) none).run Try.prog w = .ok (.slice A2 (k + 1) d) w := fun w => by have := hr2 w; rw [show ((k + 1 : Nat) : Int) = (k : Int) + 1 from by omega] at this; exact this
        have hki : (k : Int) < (l.length : Int) := by omega
        have hk0 : (0 : Int) ≤ (k : Int) := by omega
        have Hlj := hide hlj
        clear hr2 hlj
        go_wp2_with fail
        refine (f43n Hlj.out A A2 L c d _ hn hc (proper_take HP.out _) (by omega) hL (hr.to hb) (hs2.to hb)).mono ?_
        rintro e w2 ⟨hb2, ⟨v, out, rfl, _, hok⟩ | ⟨rfl, hbad⟩⟩
        · have HO := hide hok
          clear hok
          go_wp2_with fail
          go_roundw
          case rel =>
            refine ⟨k + 1, by omega, by go_num, fun j h1 h2 => ?_, bthen hb hb2⟩
            by_cases e : j = k + 1
            · subst e; exact ⟨out, HO.out⟩
            · exact HK.out j h1 (by omega)
          case measure => simp [intOf]; omega
        · have HO := hide hbad
          clear hbad
          go_wp2_with fail
          go_ret3
          exact ⟨bthen hb hb2, .inr (.inr ⟨HP.out, k, rfl, hlt, HO.out, HK.out⟩)⟩
      · have hkl : k = l.length := by omega
        have HX := hide hkl
        clear hkl
        go_wp2_with fail
        refine (f43 A B L l c d _ hn hc HP.out h8 hL (hr.to hb) (hs.to hb)).mono ?_
        rintro e w2 ⟨hb2, ⟨v, out, rfl, hown, hok⟩ | ⟨rfl, hbad⟩⟩
        · have HO := hide (And.intro hok hown)
          clear hok hown
          go_wp2_with fail
          go_ret3
          exact ⟨bthen hb hb2, .inr (.inl ⟨HP.out, v, out, rfl, own_mono HO.out.2 hb.size, HO.out.1⟩)⟩
        · exfalso
          rcases Nat.eq_zero_or_pos l.length with h0 | h0
          · have : l = [] := List.eq_nil_of_length_eq_zero h0
            subst this
            exact (TOk.of (tight_nil (proper_sk HP.out).1)).not_bd (fun _ h => h) hbad
          · obtain ⟨out, hok⟩ := HK.out l.length (by omega) (by rw [HX.out]; exact Nat.le_refl _)
            rw [List.take_length] at hok
            exact hok.not_bd (fun _ h => h) hbad
end Go.Proofs.Ytenhghkiapkejaa
