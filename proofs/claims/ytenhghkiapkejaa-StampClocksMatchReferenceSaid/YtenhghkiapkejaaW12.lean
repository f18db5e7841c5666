/- Contract of Tight. -/
import Derived.Test.YtenhghkiapkejaaW11
import Derived.Deep.LoopGhost
namespace Go.Proofs.Ytenhghkiapkejaa
open Go.RowKit
theorem flat_take {α : Type} (enc : α → List Value) (m : Nat) (hm : ∀ a, (enc a).length = m) : ∀ (l : List α) (k : Nat), (l.flatMap enc).take (k * m) = (l.take k).flatMap enc
  | [], k => by simp
  | x :: l, 0 => by simp
  | x :: l, k + 1 => by
    simp only [List.flatMap_cons, List.take_succ_cons]
    rw [← flat_take enc m hm l k, List.take_append, hm, List.take_of_length_le (by rw [hm, Nat.succ_mul]; omega)]
    congr 2
    rw [Nat.succ_mul]; omega
theorem skOk_len : ∀ (q : Int) (L : List I3), -1 ≤ q → q ≤ 39 → skOk q L = true → (L.length : Int) ≤ 39 - q
  | q, [], h, h', _ => by simp; omega
  | q, s :: L, h, h', hs => by
    simp only [skOk, Bool.and_eq_true, decide_eq_true_eq, inB_iff] at hs
    have := skOk_len s.1 L (by omega) (by omega) hs.2.2.2.2
    simp only [List.length_cons]
    omega
theorem proper_sk {L : List I3} {l : List I4} (h : proper L l = true) : skOk (-1) L = true ∧ l.length ≤ 60 ∧ (∀ m ∈ l, meetOk L m = true) := by
  unfold proper at h
  simp only [Bool.and_eq_true, decide_eq_true_eq, Bool.not_eq_true', List.any_eq_false] at h
  refine ⟨h.1, h.2.1, fun m hm => ?_⟩
  have := h.2.2 m hm
  simpa using this
theorem meetOk_mt {L : List I3} {m : I4} (h : meetOk L m = true) : mtOk m := by
  unfold meetOk at h
  simp only [Bool.and_eq_true, inB_iff] at h
  exact ⟨h.2.2.2.1.1, h.2.2.2.1.2, h.2.2.2.2.1, h.2.2.2.2.2⟩
theorem bndF_mem : ∀ (q : Int) (L : List I3), skOk q L = true → ∀ s ∈ L, bndF L s.1 = some (s.2.1, s.2.2)
  | _, [], _, s, h => by simp at h
  | q, t :: L, hs, s, h => by
    simp only [skOk, Bool.and_eq_true, decide_eq_true_eq, inB_iff] at hs
    simp only [bndF]
    rcases List.mem_cons.1 h with rfl | h
    · cases hl : bndF L s.1 with
      | none => simp
      | some b =>
        have := skOk_bnd s.1 L s.1 b hs.2.2.2.2 hl
        omega
    · rw [bndF_mem t.1 L hs.2.2.2.2 s h]; rfl
theorem skOk_le : ∀ (q : Int) (L : List I3), skOk q L = true → ∀ s ∈ L, s.2.1 ≤ s.2.2
  | _, [], _, s, h => by simp at h
  | q, t :: L, hs, s, h => by
    simp only [skOk, Bool.and_eq_true, decide_eq_true_eq, inB_iff] at hs
    rcases List.mem_cons.1 h with rfl | h
    · exact hs.2.1
    · exact skOk_le t.1 L hs.2.2.2.2 s h
theorem path_nil {p q n : Int} (h : Path [] p q n) : q = p ∧ n = 0 := by
  cases h with
  | base => exact ⟨rfl, rfl⟩
  | step _ hx => simp [pairs] at hx
theorem tight_nil {L : List I3} (hs : skOk (-1) L = true) : TightOk L [] L := by
  refine ⟨rfl, fun k h _ => ?_⟩
  have hm : L[k] ∈ L := List.getElem_mem h
  have hb := bndF_mem (-1) L hs _ hm
  have hle := skOk_le (-1) L hs _ hm
  generalize L[k] = s at *
  obtain ⟨p, lo, hi⟩ := s
  simp only [] at hb hle
  have e1 : blo L p = lo := by unfold blo; rw [hb]; rfl
  have e2 : bhi L p = hi := by unfold bhi; rw [hb]; rfl
  refine ⟨rfl, ⟨[(p, 0)], by simp, fun q n => ⟨fun h => ?_, fun h => ?_⟩, fun q n h => ?_⟩, ⟨Int.le_refl _, fun q n h => ?_, .inl rfl⟩, ⟨Int.le_refl _, fun q n h => ?_, .inl rfl⟩, hle⟩
  · by_cases hq : q = p
    · subst hq; simp [List.lookup] at h; subst h; exact .base
    · simp [List.lookup, beq_eq_false_iff_ne.2 hq] at h
  · obtain ⟨rfl, rfl⟩ := path_nil h
    simp [List.lookup]
  · by_cases hq : q = p
    · subst hq; simp [List.lookup] at h; subst h; omega
    · simp [List.lookup, beq_eq_false_iff_ne.2 hq] at h
  · obtain ⟨rfl, rfl⟩ := path_nil h
    simp only []; omega
  · obtain ⟨rfl, rfl⟩ := path_nil h
    simp only []; omega
theorem FromOk.not_bad {l : List I4} {p : Int} {D : List (Int × Int)} (h : FromOk l p D) : ¬ FromBad l p := by
  rintro ⟨q, n, n', h1, h2, hne⟩
  have a := (h.2.1 q n).2 h1
  have b := (h.2.1 q n').2 h2
  rw [a] at b
  injection b with b
  exact hne b
theorem LowIs.uniq {L : List I3} {l : List I4} {p lo a b : Int} (h : LowIs L l p lo a) (h' : LowIs L l p lo b) : a = b := by
  obtain ⟨h1, h2, h3⟩ := h
  obtain ⟨k1, k2, k3⟩ := h'
  have hab : a ≤ b := by
    rcases h3 with h3 | ⟨q, n, hq, h3⟩
    · omega
    · have := k2 q n hq; omega
  have hba : b ≤ a := by
    rcases k3 with h3 | ⟨q, n, hq, h3⟩
    · omega
    · have := h2 q n hq; omega
  omega
theorem HighIs.uniq {L : List I3} {l : List I4} {p lo a b : Int} (h : HighIs L l p lo a) (h' : HighIs L l p lo b) : a = b := by
  obtain ⟨h1, h2, h3⟩ := h
  obtain ⟨k1, k2, k3⟩ := h'
  have hab : b ≤ a := by
    rcases h3 with h3 | ⟨q, n, hq, h3⟩
    · omega
    · have := k2 q n hq; omega
  have hba : a ≤ b := by
    rcases k3 with h3 | ⟨q, n, hq, h3⟩
    · omega
    · have := h2 q n hq; omega
  omega
theorem TightOk.not_bad {L : List I3} {l : List I4} {out : List I3} (h : TightOk L l out) : ¬ TightBad L l := by
  rintro ⟨s, hs, hn⟩
  obtain ⟨k, hk, rfl⟩ := List.getElem_of_mem hs
  obtain ⟨t1, ⟨D, hD⟩, t2, t3, t4⟩ := h.2 k hk (by rw [h.1]; exact hk)
  rcases hn with hb | ⟨lo, hi, _, h1, h2, h3⟩
  · exact hD.not_bad hb
  · have := t2.uniq h1
    have := t3.uniq h2
    omega
/-- what Tight leaves -/
def TightAll (L : List I3) (l : List I4) (w : World) (e : Ending) (w' : World) : Prop :=
  (proper L l = false ∧ e = .returned (.tuple #[.slice none 0 0, .int .i64 0, .int .i64 60]) ∧ Below w.heap.size w w') ∨
    (proper L l = true ∧ ∃ v out, e = .returned (.tuple #[v, .int .i64 (-1), .int .i64 0]) ∧ w'.ownsRow w.heap.size 41 3 v out.length (out.flatMap c3) ∧ TightOk L l out ∧ Below w.heap.size w w') ∨
    (proper L l = true ∧ ∃ k : Nat, e = .returned (.tuple #[.slice none 0 0, .int .i64 k, .int .i64 0]) ∧ k < l.length ∧ TightBad L (l.take (k + 1)) ∧ (∃ out, TightOk L (l.take k) out) ∧ Below w.heap.size w w')
theorem tbad_pos {L : List I3} {l : List I4} (hs : skOk (-1) L = true) (h : TightBad L l) : 0 < l.length := by
  rcases Nat.eq_zero_or_pos l.length with h0 | h0
  · have : l = [] := List.eq_nil_of_length_eq_zero h0
    subst this
    exact absurd h (tight_nil hs).not_bad
  · exact h0
set_option maxRecDepth 100000 in
set_option maxHeartbeats 1000000 in
theorem f24 (A B : Option Addr) (L : List I3) (l : List I4) (c d : Nat) (w : World) (hn : L.length ≤ c) (hc : c ≤ 9223372036854775807) (hm : l.length ≤ d) (hd : d ≤ 9223372036854775807)
    (hr : SlR w w.heap.size 3 A L.length (L.flatMap c3)) (hs : SlR w w.heap.size 4 B l.length (l.flatMap c4)) :
    Calls Try.prog 24 #[.slice A L.length c, .slice B l.length d] w (TightAll L l w) := by
  go_enter Try.func24, Try.ntmps24
  go_wp2_with fail
  refine (f27 A B L l c d _ hn hc hm hd hr hs).mono ?_
  rintro e w1 ⟨rfl, hb1⟩
  have hr1 := hr.to hb1
  have hs1 := hs.to hb1
  have HO := hide (And.intro hr hs)
  clear hr hs
  by_cases hp : proper L l = true
  · obtain ⟨hsk, h60, hmo⟩ := proper_sk hp
    have hL := skOk_len (-1) L (by omega) (by omega) hsk
    have hmt : ∀ m ∈ l, mtOk m := fun m h => meetOk_mt (hmo m h)
    have HP := hide (And.intro hp (And.intro hsk (And.intro hmt hmo)))
    clear hmo hmt
    go_wp2_with fail
    refine (f42 A B L l c d _ hn hc hm hd hsk (by omega) HP.out.2.2.1 h60 hr1 hs1).mono ?_
    rintro e w2 hpost
    rcases hpost with ⟨v, out, rfl, hown, htok, hb2⟩ | ⟨rfl, hbad, hb2⟩
    · clear hsk hp hr1 hs1
      have H := hide (And.intro hown (And.intro htok hb2))
      obtain ⟨A', cv, rfl, _, _, _⟩ := SlR.of_own hown
      clear hown htok hb2
      go_wp2
      refine bodyPost_ret (v := .tuple #[.slice A' out.length cv, .int .i64 (-1), .int .i64 0]) (by simp [results, Try.results24, go_sem]) rfl ?_
      obtain ⟨h1, h2, h3⟩ := H.out
      refine .inr (.inl ⟨HP.out.1, _, out, rfl, ?_, h2, bthen hb1 h3⟩)
      refine ⟨h1.1, ?_⟩
      rcases h1.2 with h | ⟨g, c', cur, q1, q2, q3⟩
      · exact .inl h
      · exact .inr ⟨g, c', cur, q1, Nat.le_trans hb1.size q2, q3⟩
    · have hr2 := hr1.to hb2
      have hs2 := hs1.to hb2
      have hb12 := bthen hb1 hb2
      have hpos := tbad_pos hsk hbad
      have H := hide hbad
      clear hbad hr1 hs1 hp hb2
      go_wp2
      go_loopw [9, 10] (fun x y wr => ∃ lo hi : Nat, x = .int .i64 lo ∧ y = .int .i64 hi ∧ lo < hi ∧ hi ≤ l.length ∧ TightBad L (l.take hi) ∧ (∃ out, TightOk L (l.take lo) out) ∧ Below w.heap.size w wr) (fun x y _ => (intOf y).toNat - (intOf x).toNat)
      case atStart => exact ⟨0, l.length, rfl, rfl, hpos, Nat.le_refl _, by rw [List.take_length]; exact H.out, ⟨L, by simpa using tight_nil hsk⟩, hb12⟩
      case round =>
        obtain ⟨lo, hi, rfl, rfl, hlh, hhl, hbd, hok, hb⟩ := hrel
        have HR := hide (And.intro hbd hok)
        clear hbd hok
        by_cases hgo : lo + 1 < hi
        · have hm1 : lo < (lo + hi) / 2 := by omega
          have hm2 : (lo + hi) / 2 < hi := by omega
          have hlen : (l.take ((lo + hi) / 2)).length = (lo + hi) / 2 := by rw [List.length_take]; omega
          have h2' : (1 : Int) < (hi : Int) - (lo : Int) := by omega
          have c42 := f42 A B L (l.take ((lo + hi) / 2)) c d wr hn hc (by omega) hd hsk (by omega) (fun m h => HP.out.2.2.1 m (List.mem_of_mem_take h)) (by omega) (HO.out.1.to hb) (by have := (HO.out.2.to hb).upto (show (lo + hi) / 2 ≤ l.length by omega); rw [flat_take c4 4 (fun _ => rfl)] at this; rw [hlen]; exact this)
          rw [hlen] at c42
          have HC := hide c42
          clear hgo c42 hr2 hs2 hsk
          go_wp2_with fail
          refine HC.out.mono ?_
          rintro e w3 hpost
          rcases hpost with ⟨v, out, rfl, hown, htok, hb3⟩ | ⟨rfl, hbad, hb3⟩
          · have HN := hide (And.intro htok (bthen hb hb3))
            clear hown htok hb3
            go_wp2
            go_roundw
            case rel => exact ⟨(lo + hi) / 2, hi, by go_num, rfl, hm2, hhl, HR.out.1, ⟨_, HN.out.1⟩, HN.out.2⟩
            case measure => simp [intOf]; omega
          · have HN := hide (And.intro hbad (bthen hb hb3))
            clear hbad hb3
            go_wp2
            go_roundw
            case rel => exact ⟨lo, (lo + hi) / 2, rfl, by go_num, hm1, by omega, HN.out.1, HR.out.2, HN.out.2⟩
            case measure => simp [intOf]; omega
        · have h2' : ¬ (1 : Int) < (hi : Int) - (lo : Int) := by omega
          clear hr2 hs2 hsk
          go_wp2
          refine bodyPost_ret (v := .tuple #[.slice none 0 0, .int .i64 (hi - 1), .int .i64 0]) (by simp [results, Try.results24, go_sem]) rfl ?_
          refine .inr (.inr ⟨HP.out.1, hi - 1, by go_num, by omega, ?_, ?_, hb⟩)
          · have : hi - 1 + 1 = hi := by omega
            rw [this]; exact HR.out.1
          · have : hi - 1 = lo := by omega
            rw [this]; exact HR.out.2
  · have hp' : proper L l = false := by simpa using hp
    clear hp hr1 hs1
    go_wp2
    refine bodyPost_ret (v := .tuple #[.slice none 0 0, .int .i64 0, .int .i64 60]) (by simp [results, Try.results24, go_sem]) rfl ?_
    exact .inl ⟨hp', rfl, hb1⟩
end Go.Proofs.Ytenhghkiapkejaa
