/- Contracts of the reference's When, Proper. -/
import Derived.Test.YtenhghkiapkejaaR3
namespace Go.Proofs.Ytenhghkiapkejaa
open Go.RowKit
theorem fnd_bnd {L : List I3} {q : Int} (hs : skOk q L = true) (p : Int) : (fnd L p = -1 ∧ bndF L p = none) ∨ ∃ (k : Nat) (h : k < L.length), fnd L p = k ∧ L[k].1 = p ∧ bndF L p = some (L[k].2.1, L[k].2.2) := by
  rcases fnd_cases L p with ⟨h, hn⟩ | ⟨k, hk, h, e⟩
  · exact .inl ⟨h, bnd_none hn⟩
  · exact .inr ⟨k, hk, h, e, by rw [← e]; exact bndF_mem q L hs _ (List.getElem_mem hk)⟩
theorem f49v {L : List I3} {p k : Int} (h : fnd L p = k) (A : Option Addr) (c : Nat) (w : World) (hn : L.length ≤ c) (hc : c ≤ 9223372036854775807) (hr : SlR w w.heap.size 3 A L.length (L.flatMap c3)) :
    Calls Try.prog 49 #[.slice A L.length c, .int .i64 p] w fun e w' => e = .returned (.int .i64 k) ∧ w = w' := by
  subst h; exact f49 A L c p w hn hc hr
theorem f48v {L : List I3} {b : Bool} (h : skOk (-1) L = b) (A : Option Addr) (c : Nat) (w : World) (hn : L.length ≤ c) (hc : c ≤ 9223372036854775807) (hr : SlR w w.heap.size 3 A L.length (L.flatMap c3)) :
    Calls Try.prog 48 #[.slice A L.length c] w fun e w' => e = .returned (.bool b) ∧ Below w.heap.size w w' := by
  subst h; exact f48 A L c w hn hc hr
theorem f50v {n : Int} {b : Bool} (h : inB n 0 1000000 = b) (w : World) : Calls Try.prog 50 #[.int .i64 n] w fun e w' => e = .returned (.bool b) ∧ w = w' := by
  subst h; exact f50 n w
set_option maxRecDepth 100000 in
set_option maxHeartbeats 1000000 in
theorem f30 (A : Option Addr) (L : List I3) (c : Nat) (p t : Int) (w : World) (hn : L.length ≤ c) (hc : c ≤ 9223372036854775807) (ht : wf64 t) (hr : SlR w w.heap.size 3 A L.length (L.flatMap c3)) :
    Calls Try.prog 30 #[.slice A L.length c, .int .i64 p, .int .i64 t] w fun e w' => e = .returned (whenV (whenS L p t)) ∧ Below w.heap.size w w' := by
  obtain ⟨ht1, ht2⟩ := ht
  cases hs : skOk (-1) L
  · have hw : whenV (whenS L p t) = .tuple #[.agg #[.int .i64 0, .int .i64 0], .int .i64 60] := by
      unfold whenS
      cases bndF L p with
      | none => rfl
      | some b => rw [hs]; simp [whenV]
    have HW := hide hw
    clear hw
    go_enter Try.func30, Try.ntmps30
    go_wp2_with fail
    have hz := Blk.new w 56 [.int .i64 0, .int .i64 0]
    have hb0 := balloc (Below.refl w.heap.size w) (.cells #[.int .i64 0, .int .i64 0] 56)
    refine (f49 A L c p _ hn hc (hr.to hb0)).mono ?_
    rintro e w1 ⟨rfl, rfl⟩
    go_wp2_with fail
    refine (f48v hs A c _ hn hc (hr.to hb0)).mono ?_
    rintro e w1 ⟨rfl, hb1⟩
    have hz1 := hz.below hb1 hz.lt
    obtain ⟨y0, y1, y2, y3⟩ := hz1.all2
    have hb2 := bthen hb0 hb1
    go_wp2_with fail
    refine bodyPost_ret (v := .tuple #[.agg #[.int .i64 0, .int .i64 0], .int .i64 60]) (by simp [results, Try.results30, go_sem, y0, y1]) rfl ⟨by rw [HW.out], ?_⟩
    first | exact bset (bset hb2 (by simp) _) (by simp) _ | exact bset hb2 (by simp) _ | exact hb2
  · rcases fnd_bnd hs p with ⟨h1, h2⟩ | ⟨k, hk, h1, h2, h3⟩
    · have hw : whenV (whenS L p t) = .tuple #[.agg #[.int .i64 0, .int .i64 0], .int .i64 60] := by
        unfold whenS
        rw [h2]; rfl
      have HW := hide hw
      clear hw h2
      go_enter Try.func30, Try.ntmps30
      go_wp2_with fail
      have hz := Blk.new w 56 [.int .i64 0, .int .i64 0]
      have hb0 := balloc (Below.refl w.heap.size w) (.cells #[.int .i64 0, .int .i64 0] 56)
      refine (f49v h1 A c _ hn hc (hr.to hb0)).mono ?_
      rintro e w1 ⟨rfl, rfl⟩
      go_wp2_with fail
      refine (f48v hs A c _ hn hc (hr.to hb0)).mono ?_
      rintro e w1 ⟨rfl, hb1⟩
      have hz1 := hz.below hb1 hz.lt
      obtain ⟨y0, y1, y2, y3⟩ := hz1.all2
      have hb2 := bthen hb0 hb1
      go_wp2_with fail
      refine bodyPost_ret (v := .tuple #[.agg #[.int .i64 0, .int .i64 0], .int .i64 60]) (by simp [results, Try.results30, go_sem, y0, y1]) rfl ⟨by rw [HW.out], ?_⟩
      first | exact bset (bset hb2 (by simp) _) (by simp) _ | exact bset hb2 (by simp) _ | exact hb2
    · have hki : (k : Int) < (L.length : Int) := by omega
      have hk0 : (0 : Int) ≤ (k : Int) := by omega
      cases hti : inB t 0 1000000
      · have hw : whenV (whenS L p t) = .tuple #[.agg #[.int .i64 0, .int .i64 0], .int .i64 60] := by
          unfold whenS
          rw [h3]
          simp only [hti]
          rfl
        have HW := hide hw
        clear hw h2 h3
        go_enter Try.func30, Try.ntmps30
        go_wp2_with fail
        have hz := Blk.new w 56 [.int .i64 0, .int .i64 0]
        have hb0 := balloc (Below.refl w.heap.size w) (.cells #[.int .i64 0, .int .i64 0] 56)
        refine (f49v h1 A c _ hn hc (hr.to hb0)).mono ?_
        rintro e w1 ⟨rfl, rfl⟩
        go_wp2_with fail
        refine (f48v hs A c _ hn hc (hr.to hb0)).mono ?_
        rintro e w1 ⟨rfl, hb1⟩
        have hz1 := hz.below hb1 hz.lt
        obtain ⟨y0, y1, y2, y3⟩ := hz1.all2
        have hb2 := bthen hb0 hb1
        go_wp2_with (go_at_call 50; refine (f50v hti _).mono ?_; rintro e w' ⟨rfl, rfl⟩)
        refine bodyPost_ret (v := .tuple #[.agg #[.int .i64 0, .int .i64 0], .int .i64 60]) (by simp [results, Try.results30, go_sem, y0, y1]) rfl ⟨by rw [HW.out], ?_⟩
        first | exact bset (bset hb2 (by simp) _) (by simp) _ | exact bset hb2 (by simp) _ | exact hb2
      · have hw : whenV (whenS L p t) = .tuple #[.agg #[.int .i64 (t - L[k].2.2), .int .i64 (t - L[k].2.1 + 1)], .int .i64 0] := by
          unfold whenS
          rw [h3]
          simp only [hti, hs]
          rfl
        have hbd := skOk_get hs k hk
        obtain ⟨d1, d2, d3, d4, _, _⟩ := hbd
        have ht3 := inB_iff.1 hti
        obtain ⟨ht31, ht32⟩ := ht3
        have HW := hide hw
        clear hw h2 h3
        go_enter Try.func30, Try.ntmps30
        go_wp2_with fail
        have hz := Blk.new w 56 [.int .i64 0, .int .i64 0]
        have hb0 := balloc (Below.refl w.heap.size w) (.cells #[.int .i64 0, .int .i64 0] 56)
        refine (f49v h1 A c _ hn hc (hr.to hb0)).mono ?_
        rintro e w1 ⟨rfl, rfl⟩
        go_wp2_with fail
        refine (f48v hs A c _ hn hc (hr.to hb0)).mono ?_
        rintro e w1 ⟨rfl, hb1⟩
        have hz1 := hz.below hb1 hz.lt
        obtain ⟨y0, y1, y2, y3⟩ := hz1.all2
        have hb2 := bthen hb0 hb1
        obtain ⟨b, off, rfl, _, x0, x1, x2⟩ := hr.at3 hb2 hk
        have hzl := hz1.lt
        go_wp2_with (go_at_call 50; refine (f50v hti _).mono ?_; rintro e w' ⟨rfl, rfl⟩)
        go_region
        go_wp2_with fail
        refine bodyPost_ret (v := .tuple #[.agg #[.int .i64 (t - L[k].2.2), .int .i64 (t - L[k].2.1 + 1)], .int .i64 0]) (by simp [results, Try.results30, go_sem, y0, y1]) rfl ⟨by rw [HW.out], ?_⟩
        first | exact bdrew (bset (bset hb2 (by simp) _) (by simp) _) | exact bset (bset (bdrew hb2) (by simp) _) (by simp) _ | exact bset (bset hb2 (by simp) _) (by simp) _ | exact bset hb2 (by simp) _ | exact hb2
theorem meetOk_parts (L : List I3) (m : I4) : meetOk L m = ((bndF L m.1).isSome && ((bndF L m.2.2.1).isSome && (!(m.1 == m.2.2.1) && (inB m.2.1 0 1000000 && inB m.2.2.2 0 1000000)))) := rfl
set_option maxRecDepth 100000 in
set_option maxHeartbeats 1000000 in
theorem f28 (A B : Option Addr) (L : List I3) (l : List I4) (c d : Nat) (w : World) (hn : L.length ≤ c) (hc : c ≤ 9223372036854775807)
    (hr : SlR w w.heap.size 3 A L.length (L.flatMap c3)) (hs : SlR w w.heap.size 4 B l.length (l.flatMap c4)) (hll : l.length ≤ 9223372036854775807) :
    Calls Try.prog 28 #[.slice A L.length c, .slice B l.length d] w fun e w' => e = .returned (.bool (proper L l)) ∧ Below w.heap.size w w' := by
  go_enter Try.func28, Try.ntmps28
  go_wp2_with fail
  cases hsk : skOk (-1) L
  · have hp : proper L l = false := by unfold proper; rw [hsk]; rfl
    have HP := hide hp
    clear hp
    refine (f48v hsk A c _ hn hc hr).mono ?_
    rintro e w1 ⟨rfl, hb1⟩
    go_wp2_with fail
    go_ret
    exact ⟨ret_bool HP.out.symm, hb1⟩
  · refine (f48v hsk A c _ hn hc hr).mono ?_
    rintro e w1 ⟨rfl, hb1⟩
    by_cases h60 : l.length ≤ 60
    · have g1 : decide ((60 : Int) < (l.length : Int)) = false := decide_eq_false (by omega)
      have g2 : decide (60 < l.length) = false := decide_eq_false (by omega)
      go_wp2_with fail
      go_loopw [5] (fun i wr => ∃ k : Nat, k ≤ l.length ∧ i = .int .i64 k ∧ (∀ m ∈ l.take k, meetOk L m = true) ∧ Below w.heap.size w wr) (fun i _ => l.length - (intOf i).toNat)
      case atStart => exact ⟨0, Nat.zero_le _, rfl, by simp, hb1⟩
      case round =>
        obtain ⟨k, hk, rfl, hok, hb⟩ := hrel
        by_cases hlt : k < l.length
        · obtain ⟨b, off, rfl, hbb, x0, x1, x2, x3⟩ := hs.at4 hb hlt
          have hki : (k : Int) < (l.length : Int) := by omega
          have hk0 : (0 : Int) ≤ (k : Int) := by omega
          have HK := hide (And.intro hok (List.take_succ_eq_append_getElem hlt))
          have HM := hide (List.getElem_mem hlt)
          clear hok
          have hbad : meetOk L l[k] = false → proper L l = false := fun h => by
            unfold proper
            rw [hsk]
            have : (l.any fun m => !meetOk L m) = true := List.any_eq_true.2 ⟨_, HM.out, by rw [h]; rfl⟩
            rw [this]
            simp
          have HB := hide hbad
          clear hbad
          have f1 := fnd_neg L l[k].1
          have f2 := fnd_neg L l[k].2.2.1
          have HF := hide (And.intro f1 (And.intro f2 (meetOk_parts L l[k])))
          clear f1 f2
          have hcall := fun (p : Int) (o : Obj) => f49 A L c p (wr.alloc o) hn hc (hr.to (balloc hb o))
          have HC := hide hcall
          clear hcall
          generalize hA : fnd L l[k].1 = fa at *
          generalize hBB : fnd L l[k].2.2.1 = fb at *
          have HA := hide hA
          have HBB := hide hBB
          clear hA hBB
          rcases first5 (l[k].1 == l[k].2.2.1) (decide (fa < 0)) (decide (fb < 0)) (!inB l[k].2.1 0 1000000) (!inB l[k].2.2.2 0 1000000) with c1 | ⟨c1, c2⟩ | ⟨c1, c2, c3'⟩ | ⟨c1, c2, c3', c4'⟩ | ⟨c1, c2, c3', c4', c5⟩ | ⟨c1, c2, c3', c4', c5⟩
          all_goals
            have _hz := trivial
          · go_wp2_with fail
            go_ret
            exact ⟨ret_bool (HB.out (by rw [HF.out.2.2, c1]; simp)).symm, balloc hb _⟩
          · go_wp2_with (go_at_call 49; refine (f49v HA.out A c _ hn hc (hr.to (balloc hb _))).mono ?_; rintro e w' ⟨rfl, rfl⟩)
            go_ret
            exact ⟨ret_bool (HB.out (by
              have h := HF.out.1
              rw [c2] at h
              rw [HF.out.2.2]
              cases hi : (bndF L l[k].1).isSome
              · rfl
              · rw [hi] at h; cases h)).symm, balloc hb _⟩
          · go_wp2_with fail
            refine (f49v HA.out A c _ hn hc (hr.to (balloc hb _))).mono ?_
            rintro e w' ⟨rfl, rfl⟩
            go_wp2_with fail
            refine (f49v HBB.out A c _ hn hc (hr.to (balloc hb _))).mono ?_
            rintro e w' ⟨rfl, rfl⟩
            go_wp2_with fail
            go_ret
            exact ⟨ret_bool (HB.out (by
              rw [HF.out.2.2]
              have h := HF.out.2.1
              rw [c3'] at h
              cases hi : (bndF L l[k].2.2.1).isSome
              · simp
              · rw [hi] at h; cases h)).symm, balloc hb _⟩
          · have q1 : inB l[k].2.1 0 1000000 = false := by simpa using c4'
            go_wp2_with fail
            refine (f49v HA.out A c _ hn hc (hr.to (balloc hb _))).mono ?_
            rintro e w' ⟨rfl, rfl⟩
            go_wp2_with fail
            refine (f49v HBB.out A c _ hn hc (hr.to (balloc hb _))).mono ?_
            rintro e w' ⟨rfl, rfl⟩
            go_wp2_with fail
            refine (f50v q1 _).mono ?_
            rintro e w' ⟨rfl, rfl⟩
            go_wp2_with fail
            go_ret
            exact ⟨ret_bool (HB.out (by
              rw [HF.out.2.2]
              rw [q1]
              simp)).symm, balloc hb _⟩
          · have q1 : inB l[k].2.1 0 1000000 = true := by simpa using c4'
            have q2 : inB l[k].2.2.2 0 1000000 = false := by simpa using c5
            go_wp2_with fail
            refine (f49v HA.out A c _ hn hc (hr.to (balloc hb _))).mono ?_
            rintro e w' ⟨rfl, rfl⟩
            go_wp2_with fail
            refine (f49v HBB.out A c _ hn hc (hr.to (balloc hb _))).mono ?_
            rintro e w' ⟨rfl, rfl⟩
            go_wp2_with fail
            refine (f50v q1 _).mono ?_
            rintro e w' ⟨rfl, rfl⟩
            go_wp2_with fail
            refine (f50v q2 _).mono ?_
            rintro e w' ⟨rfl, rfl⟩
            go_wp2_with fail
            go_ret
            exact ⟨ret_bool (HB.out (by
              rw [HF.out.2.2]
              rw [q2]
              simp)).symm, balloc hb _⟩
          · have q1 : inB l[k].2.1 0 1000000 = true := by simpa using c4'
            have q2 : inB l[k].2.2.2 0 1000000 = true := by simpa using c5
            go_wp2_with fail
            refine (f49v HA.out A c _ hn hc (hr.to (balloc hb _))).mono ?_
            rintro e w' ⟨rfl, rfl⟩
            go_wp2_with fail
            refine (f49v HBB.out A c _ hn hc (hr.to (balloc hb _))).mono ?_
            rintro e w' ⟨rfl, rfl⟩
            go_wp2_with fail
            refine (f50v q1 _).mono ?_
            rintro e w' ⟨rfl, rfl⟩
            go_wp2_with fail
            refine (f50v q2 _).mono ?_
            rintro e w' ⟨rfl, rfl⟩
            go_wp2_with fail
            go_roundw
            case rel =>
              refine ⟨k + 1, by omega, by go_num, fun m hm => ?_, balloc hb _⟩
              rw [HK.out.2] at hm
              rcases List.mem_append.1 hm with hm | hm
              · exact HK.out.1 m hm
              · rw [List.mem_singleton.1 hm, HF.out.2.2, q1, q2, c1]
                have e1 : (bndF L l[k].1).isSome = true := (by
              have h := HF.out.1
              rw [c2] at h
              cases hi : (bndF L l[k].1).isSome
              · rw [hi] at h; cases h
              · rfl)
                have e2 : (bndF L l[k].2.2.1).isSome = true := (by
              have h := HF.out.2.1
              rw [c3'] at h
              cases hi : (bndF L l[k].2.2.1).isSome
              · rw [hi] at h; cases h
              · rfl)
                rw [e1, e2]
                rfl
            case measure => simp [intOf]; omega
        · have hfull : l.take k = l := List.take_of_length_le (by omega)
          rw [hfull] at hok
          have hp : proper L l = true := by
            unfold proper
            rw [hsk]
            simp only [Bool.true_and, Bool.and_eq_true, decide_eq_true_eq, Bool.not_eq_true', List.any_eq_false]
            exact ⟨h60, fun m hm => by rw [hok m hm]; simp⟩
          have HP := hide hp
          clear hp hok hfull
          go_wp2_with fail
          go_ret
          exact ⟨ret_bool HP.out.symm, hb⟩
    · have g1 : decide ((60 : Int) < (l.length : Int)) = true := decide_eq_true (by omega)
      have g2 : decide (60 < l.length) = true := decide_eq_true (by omega)
      have hp : proper L l = false := by
        unfold proper
        rw [hsk, decide_eq_false h60]
        rfl
      have HP := hide hp
      clear hp
      go_wp2_with fail
      go_ret
      exact ⟨ret_bool HP.out.symm, hb1⟩
end Go.Proofs.Ytenhghkiapkejaa
