/- Contract of the reference's Sorted: an insertion, one after the other, by append. -/
import Derived.Test.YtenhghkiapkejaaR1
import Derived.Test.YtenhghkiapkejaaSl2
import Derived.Test.YtenhghkiapkejaaW23
import Derived.Test.YtenhghkiapkejaaW12
import Derived.Deep.LoopGhost
namespace Go.Proofs.Ytenhghkiapkejaa
open Go.RowKit
def ordP (o : List I3) : Prop := o.Pairwise (fun x y => leS x y = true)
theorem flatd (l : List I3) (k : Nat) : (l.flatMap c3).drop (k * 3) = (l.drop k).flatMap c3 := by
  have h := flat_take c3 3 (fun _ => rfl) l k
  have e : l.flatMap c3 = (l.take k).flatMap c3 ++ (l.drop k).flatMap c3 := by rw [← List.flatMap_append, List.take_append_drop]
  by_cases hk : k ≤ l.length
  · have hl : ((l.take k).flatMap c3).length = k * 3 := by rw [flat_len c3 3 (fun _ => rfl), List.length_take]; congr 1; omega
    rw [e, ← hl, List.drop_left]
  · rw [List.drop_of_length_le (by omega : l.length ≤ k), List.drop_of_length_le (by rw [flat_len c3 3 (fun _ => rfl)]; omega)]
    rfl
theorem bef_le {x y : I3} : bef x y = false ↔ leS y x = true := by
  unfold bef leS
  simp
/-- behind the place at, x is before all -/
def befFrom (x : I3) (o : List I3) (k : Nat) : Prop := ∀ j (h : j < o.length), k ≤ j → bef x o[j] = true
theorem ord_insert {o : List I3} {x : I3} {k : Nat} (ho : ordP o) (hk : k ≤ o.length) (hf : befFrom x o k) (hb : ∀ (h : 0 < k), bef x (o[k - 1]'(by omega)) = false) : ordP (o.take k ++ (x :: o.drop k)) := by
  have hle : ∀ a b : I3, bef a b = true → leS a b = true := by
    intro a b h
    have := leS_total a b
    rw [Bool.or_eq_true] at this
    rcases this with h1 | h1
    · exact h1
    · have := bef_le.2 h1
      rw [h] at this; cases this
  have hpr : ∀ i (hi : i < o.length), i < k → leS o[i] x = true := by
    intro i hi hik
    have h1 := bef_le.1 (hb (by omega))
    by_cases e : i = k - 1
    · subst e; exact h1
    · exact leS_trans _ _ _ (List.pairwise_iff_getElem.1 ho i (k - 1) hi (by omega) (by omega)) h1
  unfold ordP
  rw [List.pairwise_append, List.pairwise_cons]
  have hs : (o.take k ++ o.drop k).Pairwise (fun x y => leS x y = true) := by rw [List.take_append_drop]; exact ho
  rw [List.pairwise_append] at hs
  refine ⟨hs.1, ⟨fun b hb' => ?_, hs.2.1⟩, fun a ha b hb' => ?_⟩
  · obtain ⟨j, hj, rfl⟩ := List.getElem_of_mem hb'
    rw [List.getElem_drop]
    have : k + j < o.length := by rw [List.length_drop] at hj; omega
    exact hle _ _ (hf (k + j) this (by omega))
  · rcases List.mem_cons.1 hb' with rfl | hb'
    · obtain ⟨i, hi, rfl⟩ := List.getElem_of_mem ha
      rw [List.getElem_take]
      rw [List.length_take] at hi
      exact hpr i (by omega) (by omega)
    · exact hs.2.2 a ha b hb'
theorem own_mono {W : World} {b b' : Nat} {e : TypeId} {k n : Nat} {v : Value} {xs : List Value} (h : W.ownsRow b e k v n xs) (hb : b' ≤ b) : W.ownsRow b' e k v n xs := by
  refine ⟨h.1, ?_⟩
  rcases h.2 with h1 | ⟨g, cap, cur, h1, h2, h3⟩
  · exact .inl h1
  · exact .inr ⟨g, cap, cur, h1, Nat.le_trans hb h2, h3⟩
theorem own_one {w0 W : World} (h : Below w0.heap.size w0 W) (t : TypeId) (cs : List Value) : (W.alloc (.cells cs.toArray t)).ownsRow w0.heap.size t cs.length (.slice (some ⟨W.heap.size, 0, none⟩) 1 1) 1 cs :=
  ⟨by simp, .inr ⟨W.heap.size, 1, cs.toArray, rfl, h.size, heap_alloc_new W _, Nat.le_refl _, by simp [maxLen], by simp, by simp⟩⟩
theorem flat_one' (l : List I3) (u : Value) (h : u ∈ l.flatMap c3) : u.oneCell' = true := by
  obtain ⟨s, _, hu⟩ := List.mem_flatMap.1 h
  simp only [c3, List.mem_cons, List.not_mem_nil, or_false] at hu
  rcases hu with rfl | rfl | rfl <;> rfl
set_option maxRecDepth 100000 in
set_option maxHeartbeats 1000000 in
theorem f14 (A : Option Addr) (l : List I3) (c : Nat) (w : World) (hl : l.length ≤ 100) (hr : SlR w w.heap.size 3 A l.length (l.flatMap c3)) :
    Calls Try.prog 14 #[.slice A l.length c] w fun e w' => ∃ v, e = .returned v ∧ w'.ownsRow w.heap.size 24 3 v l.length ((sortS l).flatMap c3) ∧ Below w.heap.size w w' := by
  obtain ⟨i0, hi, hz0, hz1, hz2⟩ := info_parts Try.info24
  go_enter Try.func14, Try.ntmps14
  go_wp2
  go_loopw [3, 4] (fun v i wr => ∃ (k : Nat) (o : List I3), k ≤ l.length ∧ i = .int .i64 k ∧ o.Perm (l.take k) ∧ ordP o ∧ o.length = k ∧ wr.ownsRow w.heap.size 24 3 v k (o.flatMap c3) ∧ Below w.heap.size w wr) (fun _ i _ => l.length - (intOf i).toNat)
  case atStart => exact ⟨0, [], Nat.zero_le _, rfl, by simp, by simp [ordP], rfl, World.ownsRow_nil _ _ _ _, Below.refl _ _⟩
  case round =>
    obtain ⟨k, o, hk, rfl, hp, ho, hol, hown, hb⟩ := hrel
    by_cases hlt : k < l.length
    · obtain ⟨b, off, rfl, hbb, x0, x1, x2⟩ := hr.at3 hb hlt
      obtain ⟨Av, cv, rfl, hcv1, hcv2, hV⟩ := SlR.of_own hown
      obtain ⟨wo, rfl⟩ : ∃ wo : World, wo = wr := ⟨_, rfl⟩
      have hki : (k : Int) < (l.length : Int) := by omega
      have hk0 : (0 : Int) ≤ (k : Int) := by omega
      have Hp := hide (And.intro hp (And.intro ho (And.intro hown hol)))
      clear hp ho hown hol
      obtain ⟨z0, z1, z2⟩ := (hr.to hb).bw3 hlt
      go_wp2_with fail
      go_loopw [5] (fun at' wr => ∃ a : Nat, a ≤ k ∧ at' = .int .i64 a ∧ befFrom l[k] o a ∧ Below wo.heap.size wo wr) (fun at' _ => (intOf at').toNat)
      case atStart => exact ⟨k, Nat.le_refl _, rfl, fun j h1 h2 => absurd h1 (by have := Hp.out.2.2.2; omega), Below.refl _ _⟩
      case round =>
        obtain ⟨a, hak, rfl, hbf, hb5⟩ := hrel
        rcases Nat.eq_zero_or_pos a with h0 | h0
        · have g1 : decide ((0 : Int) < (a : Int)) = false := decide_eq_false (by omega)
          have g2 : decide (0 < a) = false := decide_eq_false (by omega)
          have HB0 : ∀ (h : 0 < a), bef l[k] (o[a - 1]'(by have := Hp.out.2.2.2; omega)) = false := fun h => absurd h (by omega)
          have HI := hide (ord_insert (x := l[k]) (k := a) Hp.out.2.1 (by have := Hp.out.2.2.2; omega) hbf HB0)
          clear HB0 h0
          obtain ⟨A1, hs1, hr1⟩ := hV.cutHiM hcv1 hak 26 24 i0 Try.underlying26 hi
          obtain ⟨A2, hs2, hr2⟩ := hV.cutLo hcv1 hak 26 24 i0 Try.underlying26 hi hz1
          rw [flat_take c3 3 (fun _ => rfl)] at hs1
          rw [flatd] at hs2
          have hai : (a : Int) ≤ (k : Int) := by omega
          have ha0 : (0 : Int) ≤ (a : Int) := by omega
          have hwl : w.heap.size ≤ wo.heap.size := hb.size
          have HS := hide (fun (W : World) (h : Below wo.heap.size wo W) => (show W.cell? ⟨b, off + k * 3, none⟩ = some (.int .i64 l[k].1) ∧ W.cell? ⟨b, off + k * 3 + 1, none⟩ = some (.int .i64 l[k].2.1) ∧ W.cell? ⟨b, off + k * 3 + 2, none⟩ = some (.int .i64 l[k].2.2) ∧ Below wo.heap.size wo W from ⟨z0 ⟨W, h⟩, z1 ⟨W, h⟩, z2 ⟨W, h⟩, h⟩))
          clear z0 z1 z2 x0 x1 x2 hbf
          go_wp2_with fail
          refine wp_region_bw wo (by assumption) (by kernel_rfl) (by kernel_rfl) ?_
          repeat (go_big_quiet_step (fail))
          refine wpQuiet_nil ?_
          intro w3 hb3
          clear hb5
          have hb5 := hb3
          go_wp2_with fail
          go_region_held3 (fun W => W.cell? ⟨b, off + k * 3, none⟩ = some (.int .i64 l[k].1) ∧ W.cell? ⟨b, off + k * 3 + 1, none⟩ = some (.int .i64 l[k].2.1) ∧ W.cell? ⟨b, off + k * 3 + 2, none⟩ = some (.int .i64 l[k].2.2) ∧ Below wo.heap.size wo W)
            (first | assumption | exact HS.out _ (bdrew (by assumption)) | exact HS.out _ (by assumption) | (go_split_ands; first | exact HS.out _ (by assumption) | exact HS.out _ (balloc (by assumption) _) | exact HS.out _ (bdrew (balloc (by assumption) _)) | exact HS.out _ (balloc (bdrew (by assumption)) _)))
            (first | (go_split_ands; refine step_append_sl (w0 := wo) (B := wo.heap.size) (size := 3) (by rfl) _ _ 26 (by rfl) wo.heap.size 24 i0 (.agg #[.int .i64 0, .int .i64 0, .int .i64 0]) 24 Try.underlying26 hi hz0 hz1 hz2 (by rfl) (by decide) _ 1 [.int .i64 l[k].1, .int .i64 l[k].2.1, .int .i64 l[k].2.2] (by rfl) (by first | exact own_one hb5 _ _ | exact (own_one hb5 _ _).drew | exact own_one (bdrew hb5) _ _) (k - a) (cv - a) ((o.drop a).flatMap c3) (by rfl) hs2 (by assumption) (by exact fun u hu => flat_one' _ u hu) (by unfold maxLen; omega) (by omega) (by exact Below.size (by assumption)) ?_; intro v4 w4 hown4 hgrow hor; have hb4 : Below wo.heap.size wo w4 := bgrown (by assumption) hgrow (fun j e => by cases e; exact Below.size (by assumption))) |
              (go_split_ands; obtain ⟨A4, c4', rfl, hc41, hc42, hV4⟩ := SlR.of_own hown4; refine step_append_fresh (w0 := wo) (B := wo.heap.size) (size := 3) (w1 := w4) (B1 := w4.heap.size) (by rfl) _ _ 26 (by rfl) wo.heap.size 24 i0 (.agg #[.int .i64 0, .int .i64 0, .int .i64 0]) 24 Try.underlying26 hi hz0 hz1 hz2 (by rfl) a ((o.take a).flatMap c3) (by rfl) hs1 (by assumption) _ _ _ (by rfl) hV4 (Below.refl _ _) (by omega) (by unfold maxLen; omega) (by omega) (by exact Below.size (by assumption)) ?_; intro v5 w5 hown5 hgrow5; have hb5' : Below wo.heap.size wo w5 := bgrown (by assumption) hgrow5 (fun j e => by cases e)))
          have hb5w : Below wo.heap.size wo w5 := by assumption
          go_wp2_with fail
          go_roundw
          case rel =>
            refine ⟨k + 1, _, by omega, by go_num, ?_, HI.out, ?_, ?_, bthen hb hb5w⟩
            · have h1 := Hp.out.1
              rw [List.take_succ_eq_append_getElem hlt]
              refine List.perm_middle.trans ?_
              rw [List.take_append_drop]
              exact (h1.cons l[k]).trans (List.perm_append_singleton _ _).symm
            · have := Hp.out.2.2.2
              simp only [List.length_append, List.length_cons, List.length_take, List.length_drop]
              omega
            · have e : a + (1 + (k - a)) = k + 1 := by omega
              have h2 := own_mono hown5 hwl
              rw [e] at h2
              rw [List.flatMap_append, List.flatMap_cons]
              exact h2
          case measure => simp [intOf]; omega
        · have g1 : decide ((0 : Int) < (a : Int)) = true := decide_eq_true (by omega)
          have g2 : decide (0 < a) = true := decide_eq_true (by omega)
          have hka : a - 1 < o.length := by have := Hp.out.2.2.2; omega
          obtain ⟨bv, ov, rfl, _, _⟩ := hV.2 (by omega)
          obtain ⟨y0, y1, y2⟩ := hV.bw3 hka
          have ha1 : (1 : Int) ≤ (a : Int) := by omega
          have haki : (a : Int) ≤ (k : Int) := by omega
          cases hbq : bef l[k] o[a - 1]
          · have HB0 : ∀ (h : 0 < a), bef l[k] (o[a - 1]'(by have := Hp.out.2.2.2; omega)) = false := fun _ => hbq
            have HI := hide (ord_insert (x := l[k]) (k := a) Hp.out.2.1 (by have := Hp.out.2.2.2; omega) hbf HB0)
            clear HB0
            obtain ⟨A1, hs1, hr1⟩ := hV.cutHiM hcv1 hak 26 24 i0 Try.underlying26 hi
            obtain ⟨A2, hs2, hr2⟩ := hV.cutLo hcv1 hak 26 24 i0 Try.underlying26 hi hz1
            rw [flat_take c3 3 (fun _ => rfl)] at hs1
            rw [flatd] at hs2
            have hai : (a : Int) ≤ (k : Int) := by omega
            have ha0 : (0 : Int) ≤ (a : Int) := by omega
            have hwl : w.heap.size ≤ wo.heap.size := hb.size
            have HS := hide (fun (W : World) (h : Below wo.heap.size wo W) => (show W.cell? ⟨b, off + k * 3, none⟩ = some (.int .i64 l[k].1) ∧ W.cell? ⟨b, off + k * 3 + 1, none⟩ = some (.int .i64 l[k].2.1) ∧ W.cell? ⟨b, off + k * 3 + 2, none⟩ = some (.int .i64 l[k].2.2) ∧ Below wo.heap.size wo W from ⟨z0 ⟨W, h⟩, z1 ⟨W, h⟩, z2 ⟨W, h⟩, h⟩))
            go_wp2_with fail
            refine wp_region_bw wo (by assumption) (by kernel_rfl) (by kernel_rfl) ?_
            repeat (go_big_quiet_step ((go_at_call 19; exact bw_call (f19v (by assumption) _))))
            refine wpQuiet_nil ?_
            intro w3 hb3
            clear hb5
            have hb5 := hb3
            go_wp2_with fail
            clear z0 z1 z2 x0 x1 x2 hbf
            go_region_held3 (fun W => W.cell? ⟨b, off + k * 3, none⟩ = some (.int .i64 l[k].1) ∧ W.cell? ⟨b, off + k * 3 + 1, none⟩ = some (.int .i64 l[k].2.1) ∧ W.cell? ⟨b, off + k * 3 + 2, none⟩ = some (.int .i64 l[k].2.2) ∧ Below wo.heap.size wo W)
              (first | assumption | exact HS.out _ (bdrew (by assumption)) | exact HS.out _ (by assumption) | (go_split_ands; first | exact HS.out _ (by assumption) | exact HS.out _ (balloc (by assumption) _) | exact HS.out _ (bdrew (balloc (by assumption) _)) | exact HS.out _ (balloc (bdrew (by assumption)) _)))
              (first | (go_split_ands; refine step_append_sl (w0 := wo) (B := wo.heap.size) (size := 3) (by rfl) _ _ 26 (by rfl) wo.heap.size 24 i0 (.agg #[.int .i64 0, .int .i64 0, .int .i64 0]) 24 Try.underlying26 hi hz0 hz1 hz2 (by rfl) (by decide) _ 1 [.int .i64 l[k].1, .int .i64 l[k].2.1, .int .i64 l[k].2.2] (by rfl) (by first | exact own_one hb5 _ _ | exact (own_one hb5 _ _).drew | exact own_one (bdrew hb5) _ _) (k - a) (cv - a) ((o.drop a).flatMap c3) (by rfl) hs2 (by assumption) (by exact fun u hu => flat_one' _ u hu) (by unfold maxLen; omega) (by omega) (by exact Below.size (by assumption)) ?_; intro v4 w4 hown4 hgrow hor; have hb4 : Below wo.heap.size wo w4 := bgrown (by assumption) hgrow (fun j e => by cases e; exact Below.size (by assumption))) |
                (go_split_ands; obtain ⟨A4, c4', rfl, hc41, hc42, hV4⟩ := SlR.of_own hown4; refine step_append_fresh (w0 := wo) (B := wo.heap.size) (size := 3) (w1 := w4) (B1 := w4.heap.size) (by rfl) _ _ 26 (by rfl) wo.heap.size 24 i0 (.agg #[.int .i64 0, .int .i64 0, .int .i64 0]) 24 Try.underlying26 hi hz0 hz1 hz2 (by rfl) a ((o.take a).flatMap c3) (by rfl) hs1 (by assumption) _ _ _ (by rfl) hV4 (Below.refl _ _) (by omega) (by unfold maxLen; omega) (by omega) (by exact Below.size (by assumption)) ?_; intro v5 w5 hown5 hgrow5; have hb5' : Below wo.heap.size wo w5 := bgrown (by assumption) hgrow5 (fun j e => by cases e)))
            have hb5w : Below wo.heap.size wo w5 := by assumption
            go_wp2_with fail
            go_roundw
            case rel =>
              refine ⟨k + 1, _, by omega, by go_num, ?_, HI.out, ?_, ?_, bthen hb hb5w⟩
              · have h1 := Hp.out.1
                rw [List.take_succ_eq_append_getElem hlt]
                refine List.perm_middle.trans ?_
                rw [List.take_append_drop]
                exact (h1.cons l[k]).trans (List.perm_append_singleton _ _).symm
              · have := Hp.out.2.2.2
                simp only [List.length_append, List.length_cons, List.length_take, List.length_drop]
                omega
              · have e : a + (1 + (k - a)) = k + 1 := by omega
                have h2 := own_mono hown5 hwl
                rw [e] at h2
                rw [List.flatMap_append, List.flatMap_cons]
                exact h2
            case measure => simp [intOf]; omega
          · have HF := hide (fun j (h : j < o.length) (h1 : a - 1 ≤ j) => (show bef l[k] o[j] = true from by
              by_cases e : j = a - 1
              · subst e; exact hbq
              · exact hbf j h (by omega)))
            clear hbf
            go_wp2_with fail
            refine wp_region_bw wo (by assumption) (by kernel_rfl) (by kernel_rfl) ?_
            repeat (go_big_quiet_step ((go_at_call 19; exact bw_call (f19v (by assumption) _))))
            refine wpQuiet_nil ?_
            intro w3 hb3
            go_wp2_with fail
            go_roundw
            case rel => exact ⟨a - 1, by omega, by go_num, HF.out, hb3⟩
            case measure => simp [intOf]; omega
    · have hkl : k = l.length := by omega
      subst hkl
      rw [List.take_length] at hp
      have he : o = sortS l := sortS_uniq hp ho
      clear hp ho hol
      rw [he] at hown
      go_wp2_with fail
      go_ret
      exact ⟨_, rfl, hown, hb⟩
end Go.Proofs.Ytenhghkiapkejaa
