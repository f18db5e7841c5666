/- Contract of the reference's tight. -/
import Derived.Test.YtenhghkiapkejaaR5
import Derived.Test.YtenhghkiapkejaaRt
import Derived.Deep.RegionHeld3
namespace Go.Proofs.Ytenhghkiapkejaa
open Go.RowKit
theorem Try.info41' : (Try.prog.info? 41).map (fun i => (i.zero, i.size, i.bytes)) = some (some (.agg #[.int .i64 0, .int .i64 0, .int .i64 0]), 3, 24) := by kernel_rfl
def TO (L : List I3) (l : List I4) (s t : I3) : Prop := t.1 = s.1 ∧ ¬ FromBad l s.1 ∧ LowIs L l s.1 s.2.1 t.2.1 ∧ HighIs L l s.1 s.2.2 t.2.2 ∧ t.2.1 ≤ t.2.2
def TOk (L : List I3) (l : List I4) (out : List I3) : Prop := out.length = L.length ∧ ∀ k (h : k < L.length) (h' : k < out.length), TO L l L[k] out[k]
def TBd (L : List I3) (l : List I4) : Prop := ∃ s ∈ L, FromBad l s.1 ∨ ∃ lo hi, LowIs L l s.1 s.2.1 lo ∧ HighIs L l s.1 s.2.2 hi ∧ hi < lo
def MxI (f : Nat → Int) (S : Nat → Prop) (q : Nat) (st cur : Int) : Prop := st ≤ cur ∧ (∀ k, k < q → S k → f k ≤ cur) ∧ (cur = st ∨ ∃ k, k < q ∧ S k ∧ cur = f k)
def MnI (f : Nat → Int) (S : Nat → Prop) (q : Nat) (st cur : Int) : Prop := cur ≤ st ∧ (∀ k, k < q → S k → cur ≤ f k) ∧ (cur = st ∨ ∃ k, k < q ∧ S k ∧ cur = f k)
theorem MxI.start {f : Nat → Int} {S : Nat → Prop} {st : Int} : MxI f S 0 st st := ⟨Int.le_refl _, fun _ h => absurd h (by omega), .inl rfl⟩
theorem MnI.start {f : Nat → Int} {S : Nat → Prop} {st : Int} : MnI f S 0 st st := ⟨Int.le_refl _, fun _ h => absurd h (by omega), .inl rfl⟩
theorem MxI.skip {f : Nat → Int} {S : Nat → Prop} {q : Nat} {st cur : Int} (h : MxI f S q st cur) (hq : ¬ S q) : MxI f S (q + 1) st cur := by
  refine ⟨h.1, fun k hk hS => ?_, ?_⟩
  · by_cases e : k = q
    · subst e; exact absurd hS hq
    · exact h.2.1 k (by omega) hS
  · rcases h.2.2 with h | ⟨k, hk, hS, e⟩
    · exact .inl h
    · exact .inr ⟨k, by omega, hS, e⟩
theorem MnI.skip {f : Nat → Int} {S : Nat → Prop} {q : Nat} {st cur : Int} (h : MnI f S q st cur) (hq : ¬ S q) : MnI f S (q + 1) st cur := by
  refine ⟨h.1, fun k hk hS => ?_, ?_⟩
  · by_cases e : k = q
    · subst e; exact absurd hS hq
    · exact h.2.1 k (by omega) hS
  · rcases h.2.2 with h | ⟨k, hk, hS, e⟩
    · exact .inl h
    · exact .inr ⟨k, by omega, hS, e⟩
theorem MxI.take {f : Nat → Int} {S : Nat → Prop} {q : Nat} {st cur v : Int} (h : MxI f S q st cur) (hq : S q) (hv : v = f q) : MxI f S (q + 1) st (if cur < v then v else cur) := by
  have h1 := h.1
  refine ⟨by split <;> omega, fun k hk hS => ?_, ?_⟩
  · by_cases e : k = q
    · subst e; split <;> omega
    · have := h.2.1 k (by omega) hS; split <;> omega
  · split
    · exact .inr ⟨q, by omega, hq, hv⟩
    · rcases h.2.2 with h | ⟨k, hk, hS, e⟩
      · exact .inl h
      · exact .inr ⟨k, by omega, hS, e⟩
theorem MnI.take {f : Nat → Int} {S : Nat → Prop} {q : Nat} {st cur v : Int} (h : MnI f S q st cur) (hq : S q) (hv : v = f q) : MnI f S (q + 1) st (if v < cur then v else cur) := by
  have h1 := h.1
  refine ⟨by split <;> omega, fun k hk hS => ?_, ?_⟩
  · by_cases e : k = q
    · subst e; split <;> omega
    · have := h.2.1 k (by omega) hS; split <;> omega
  · split
    · exact .inr ⟨q, by omega, hq, hv⟩
    · rcases h.2.2 with h | ⟨k, hk, hS, e⟩
      · exact .inl h
      · exact .inr ⟨k, by omega, hS, e⟩
def lo' (L : List I3) (ms : List Int) (k : Nat) : Int := (L.getD k (0, 0, 0)).2.1 - gi ms k
def hi' (L : List I3) (ms : List Int) (k : Nat) : Int := (L.getD k (0, 0, 0)).2.2 - gi ms k
theorem own_mono {W : World} {b b' : Nat} {e : TypeId} {k n : Nat} {v : Value} {xs : List Value} (h : W.ownsRow b e k v n xs) (hb : b' ≤ b) : W.ownsRow b' e k v n xs := by
  refine ⟨h.1, ?_⟩
  rcases h.2 with h1 | ⟨g, cap, cur, h1, h2, h3⟩
  · exact .inl h1
  · exact .inr ⟨g, cap, cur, h1, Nat.le_trans hb h2, h3⟩
theorem own_bel {W W' : World} {b : Nat} {e : TypeId} {k n : Nat} {v : Value} {xs : List Value} (h : W.ownsRow b e k v n xs) (hb : Below W.heap.size W W') : W'.ownsRow b e k v n xs := by
  refine ⟨h.1, ?_⟩
  rcases h.2 with h1 | ⟨g, cap, cur, h1, h2, h3, h4⟩
  · exact .inl h1
  · exact .inr ⟨g, cap, cur, h1, h2, by rw [hb.block g (Array.getElem?_eq_some_iff.1 h3).1]; exact h3, h4⟩
theorem slr_blk {W : World} {g : Nat} {t : TypeId} {cs : List Value} (h : Blk W g t cs) : SlR W (g + 1) cs.length (some ⟨g, 0, none⟩) 1 cs :=
  ⟨by simp, fun _ => ⟨g, 0, rfl, Nat.lt_succ_self g, fun j u hu => by rw [h.cell]; simpa using hu⟩⟩
theorem getD_at {L : List I3} {k : Nat} (h : k < L.length) : L.getD k (0, 0, 0) = L[k] := by rw [List.getD_eq_getElem?_getD, List.getElem?_eq_getElem h]; rfl
theorem MxI.low {L : List I3} {l : List I4} {fs ms : List Int} {B cur : Int} (hpr : proper L l = true) (hJ : JI L l fs ms B) {i : Nat} (hi : i < L.length) (h : MxI (lo' L ms) (fun k => gi fs k = gi fs i) L.length (L[i].2.1 - gi ms i) cur) : LowIs L l L[i].1 L[i].2.1 (cur + gi ms i) := by
  obtain ⟨hsk, _, hm⟩ := proper_sk hpr
  obtain ⟨h1, h2, h3⟩ := h
  refine ⟨by omega, fun q n hq => ?_, ?_⟩
  · rw [← gp_at hi] at hq
    obtain ⟨b, hb, e1, e2, e3⟩ := hJ.path hm hi hq
    have := h2 b hb e2.symm
    have hbl : blo L q = L[b].2.1 := by
      unfold blo
      rw [← e1, gp_at hb, bndF_mem (-1) L hsk _ (List.getElem_mem hb)]
      rfl
    unfold lo' at this
    rw [getD_at hb] at this
    omega
  · rcases h3 with h3 | ⟨b, hb, hS, e⟩
    · exact .inl (by omega)
    · right
      refine ⟨gp L b, gi ms b - gi ms i, ?_, ?_⟩
      · rw [← gp_at hi]; exact hJ.2.2.1 i b hi hb hS.symm
      · have hbl : blo L (gp L b) = L[b].2.1 := by
          unfold blo
          rw [gp_at hb, bndF_mem (-1) L hsk _ (List.getElem_mem hb)]
          rfl
        unfold lo' at e
        rw [getD_at hb] at e
        omega
theorem MnI.high {L : List I3} {l : List I4} {fs ms : List Int} {B cur : Int} (hpr : proper L l = true) (hJ : JI L l fs ms B) {i : Nat} (hi : i < L.length) (h : MnI (hi' L ms) (fun k => gi fs k = gi fs i) L.length (L[i].2.2 - gi ms i) cur) : HighIs L l L[i].1 L[i].2.2 (cur + gi ms i) := by
  obtain ⟨hsk, _, hm⟩ := proper_sk hpr
  obtain ⟨h1, h2, h3⟩ := h
  refine ⟨by omega, fun q n hq => ?_, ?_⟩
  · rw [← gp_at hi] at hq
    obtain ⟨b, hb, e1, e2, e3⟩ := hJ.path hm hi hq
    have := h2 b hb e2.symm
    have hbl : bhi L q = L[b].2.2 := by
      unfold bhi
      rw [← e1, gp_at hb, bndF_mem (-1) L hsk _ (List.getElem_mem hb)]
      rfl
    unfold hi' at this
    rw [getD_at hb] at this
    omega
  · rcases h3 with h3 | ⟨b, hb, hS, e⟩
    · exact .inl (by omega)
    · right
      refine ⟨gp L b, gi ms b - gi ms i, ?_, ?_⟩
      · rw [← gp_at hi]; exact hJ.2.2.1 i b hi hb hS.symm
      · have hbl : bhi L (gp L b) = L[b].2.2 := by
          unfold bhi
          rw [gp_at hb, bndF_mem (-1) L hsk _ (List.getElem_mem hb)]
          rfl
        unfold hi' at e
        rw [getD_at hb] at e
        omega
def RtPost (L : List I3) (l : List I4) (w : World) (e : Ending) (w' : World) : Prop :=
  Below w.heap.size w w' ∧ ((∃ v out, e = .returned (.tuple #[v, .bool true]) ∧ w'.ownsRow w.heap.size 41 3 v out.length (out.flatMap c3) ∧ TOk L l out) ∨ (e = .returned (.tuple #[.slice none 0 0, .bool false]) ∧ TBd L l))
set_option maxRecDepth 100000 in
set_option maxHeartbeats 2000000 in
theorem f43 (A B : Option Addr) (L : List I3) (l : List I4) (c d : Nat) (w : World) (hn : L.length ≤ c) (hc : c ≤ 9223372036854775807) (hpr : proper L l = true) (h8 : l.length ≤ 8) (hL : L.length ≤ 100)
    (hr : SlR w w.heap.size 3 A L.length (L.flatMap c3)) (hs : SlR w w.heap.size 4 B l.length (l.flatMap c4)) :
    Calls Try.prog 43 #[.slice A L.length c, .slice B l.length d] w (RtPost L l w) := by
  obtain ⟨i0, hi, hz0, hz1, hz2⟩ := info_parts Try.info41'
  have HP := hide hpr
  go_enter Try.func43, Try.ntmps43
  go_wp2_with fail
  refine (f52 A B L l c d w hn hc hpr h8 hL hr hs).mono ?_
  clear hpr
  rintro e w1 ⟨hbw, ⟨fs, ms, rfl, hJ, hb1, hb2⟩ | ⟨rfl, s, hsL, hbad⟩⟩
  · have hr1 := hr.to hbw
    have hfl := hJ.1
    have hml := hJ.2.1
    have hsk := (proper_sk HP.out).1
    have HJ := hide hJ
    have bk := hJ.2.2.2.2
    have HS := hide hsk
    have F : ∀ k, k < L.length → ∀ x : BW w1, x.val.cell? ⟨w.heap.size, k, none⟩ = some (.int .i64 (gi fs k)) := fun k hk x => blkA (hb1.below x.ok hb1.lt) hfl hk
    have G : ∀ k, k < L.length → ∀ x : BW w1, x.val.cell? ⟨w.heap.size + 1, k, none⟩ = some (.int .i64 (gi ms k)) := fun k hk x => blkA (hb2.below x.ok hb2.lt) hml hk
    have HF := hide (And.intro F G)
    clear F G hJ hsk hr hs
    go_wp2_with fail
    go_loopw [9, 10] (fun v i wr => ∃ (k : Nat) (out : List I3), k ≤ L.length ∧ i = .int .i64 k ∧ out.length = k ∧ (∀ j (h : j < L.length) (h' : j < out.length), TO L l L[j] out[j]) ∧ wr.ownsRow w1.heap.size 41 3 v k (out.flatMap c3) ∧ Below w1.heap.size w1 wr) (fun _ i _ => L.length - (intOf i).toNat)
    case atStart => exact ⟨0, [], Nat.zero_le _, rfl, rfl, fun j _ h => absurd h (by simp), World.ownsRow_nil _ _ _ _, Below.refl _ _⟩
    case round =>
      obtain ⟨k, out, hk, rfl, hol, hout, hown, hb⟩ := hrel
      by_cases hlt : k < L.length
      · obtain ⟨b, off, rfl, _, _⟩ := hr1.2 (by omega)
        obtain ⟨wo, rfl⟩ : ∃ wo : World, wo = wr := ⟨_, rfl⟩
        have hro := hr1.to hb
        obtain ⟨s0, s1, s2⟩ := hro.bw3 hlt
        have FG := fun k hk (x : BW wo) => And.intro (HF.out.1 k hk ⟨x.val, bthen hb x.ok⟩) (HF.out.2 k hk ⟨x.val, bthen hb x.ok⟩)
        simp only [] at FG
        have HFG := hide FG
        clear FG
        have y0 := fun x => (HFG.out k hlt x).1
        have y1 := fun x => (HFG.out k hlt x).2
        have hki : (k : Int) < (L.length : Int) := by omega
        have hk0 : (0 : Int) ≤ (k : Int) := by omega
        have hbk := bk k hlt
        obtain ⟨hbk1, hbk2⟩ := hbk
        have hbs := skOk_get HS.out k hlt
        obtain ⟨q1, q2, q3, q4, _, _⟩ := hbs
        have HO := hide (And.intro hout (And.intro hown hol))
        have hbo := Below.refl wo.heap.size wo
        clear hout hown hol
        go_wp2_with fail
        refine wp_region_bw wo (by assumption) (by kernel_rfl) (by kernel_rfl) ?_
        repeat (go_big_quiet_step (fail))
        refine wpQuiet_nil ?_
        intro w2 hbw2
        go_wp2_with fail
        refine wp_region_bw wo (by assumption) (by kernel_rfl) (by kernel_rfl) ?_
        repeat (go_big_quiet_step (fail))
        refine wpQuiet_nil ?_
        intro w3 hbw3
        go_wp2_with fail
        go_loopw [11, 12, 13] (fun lo hi q wx => ∃ (p : Nat) (ll hh : Int), p ≤ L.length ∧ q = .int .i64 p ∧ lo = .int .i64 ll ∧ hi = .int .i64 hh ∧ MxI (lo' L ms) (fun x => gi fs x = gi fs k) p (L[k].2.1 - gi ms k) ll ∧ MnI (hi' L ms) (fun x => gi fs x = gi fs k) p (L[k].2.2 - gi ms k) hh ∧ -7000000000 ≤ ll ∧ ll ≤ 7000000000 ∧ -7000000000 ≤ hh ∧ hh ≤ 7000000000 ∧ Below wo.heap.size wo wx) (fun _ _ q _ => L.length - (intOf q).toNat)
        case atStart => exact ⟨0, _, _, Nat.zero_le _, rfl, rfl, rfl, MxI.start, MnI.start, by omega, by omega, by omega, by omega, by assumption⟩
        case round =>
          clear hbw2 hbw3
          obtain ⟨p, ll, hh, hp, rfl, rfl, rfl, hlo, hhi, b1, b2, b3, b4, hbx⟩ := hrel
          by_cases hltp : p < L.length
          · obtain ⟨t0, t1, t2⟩ := hro.bw3 hltp
            have u0 := fun x => (HFG.out p hltp x).1
            have u1 := fun x => (HFG.out p hltp x).2
            have hpi : (p : Int) < (L.length : Int) := by omega
            have hp0 : (0 : Int) ≤ (p : Int) := by omega
            have hbp := bk p hltp
            obtain ⟨hbp1, hbp2⟩ := hbp
            have hbs := skOk_get HS.out p hltp
            obtain ⟨r1, r2, r3, r4, _, _⟩ := hbs
            have HX := hide (And.intro hlo hhi)
            clear hlo hhi
            cases hq : (gi fs p == gi fs k)
            · go_wp2_with fail
              refine wp_region_bw wo (by assumption) (by kernel_rfl) (by kernel_rfl) ?_
              repeat (go_big_quiet_step (fail))
              refine wpQuiet_nil ?_
              intro w4 hbw4
              go_wp2_with fail
              go_roundw
              case rel => exact ⟨p + 1, ll, hh, by omega, by go_num, rfl, rfl, HX.out.1.skip (beq_eq_false_iff_ne.1 hq), HX.out.2.skip (beq_eq_false_iff_ne.1 hq), b1, b2, b3, b4, by assumption⟩
              case measure => simp [intOf]; omega
            · have eL : lo' L ms p = L[p].2.1 - gi ms p := by unfold lo'; rw [getD_at hltp]
              have eH : hi' L ms p = L[p].2.2 - gi ms p := by unfold hi'; rw [getD_at hltp]
              have HE := hide (And.intro eL eH)
              clear eL eH
              have T1 := HX.out.1.take (v := L[p].2.1 - gi ms p) (by simpa using hq) HE.out.1.symm
              have T2 := HX.out.2.take (v := L[p].2.2 - gi ms p) (by simpa using hq) HE.out.2.symm
              have HT := hide (And.intro T1 T2)
              clear T1 T2
              by_cases m1 : ll < L[p].2.1 - gi ms p
              all_goals
                by_cases m2 : L[p].2.2 - gi ms p < hh
              all_goals
                go_wp2_with fail
                refine wp_region_bw wo (by assumption) (by kernel_rfl) (by kernel_rfl) ?_
                repeat (go_big_quiet_step (fail))
                refine wpQuiet_nil ?_
                intro w4 hbw4
                go_wp2_with fail
                refine wp_region_bw wo (by assumption) (by kernel_rfl) (by kernel_rfl) ?_
                repeat (go_big_quiet_step (fail))
                refine wpQuiet_nil ?_
                intro w5 hbw5
                go_wp2_with fail
                refine wp_region_bw wo (by assumption) (by kernel_rfl) (by kernel_rfl) ?_
                repeat (go_big_quiet_step (fail))
                refine wpQuiet_nil ?_
                intro w6 hbw6
                go_wp2_with fail
                go_roundw
                case rel =>
                  obtain ⟨T1, T2⟩ := HT.out
                  first | rw [if_pos (by omega)] at T1 | rw [if_neg (by omega)] at T1
                  first | rw [if_pos (by omega)] at T2 | rw [if_neg (by omega)] at T2
                  exact ⟨p + 1, _, _, by omega, by go_num, rfl, rfl, T1, T2, by omega, by omega, by omega, by omega, by assumption⟩
                case measure => simp [intOf]; omega
          · have hpl : p = L.length := by omega
            rw [hpl] at hlo hhi
            have hLo := MxI.low HP.out HJ.out hlt hlo
            have hHi := MnI.high HP.out HJ.out hlt hhi
            have hnb := JI.not_bad HS.out (proper_sk HP.out).2.2 HJ.out hlt
            rw [gp_at hlt] at hnb
            have HX := hide (And.intro hLo (And.intro hHi hnb))
            clear hlo hhi hpl hLo hHi hnb
            by_cases hgt : hh < ll
            · go_wp2_with fail
              go_ret2
              exact ⟨bthen hbw (bthen hb hbx), .inr ⟨rfl, L[k], List.getElem_mem hlt, .inr ⟨_, _, HX.out.1, HX.out.2.1, by omega⟩⟩⟩
            · have hHS := hide (fun (W : World) (h : Below w1.heap.size w1 W) => (show (W.cell? ⟨b, off + k * 3, none⟩ = some (.int .i64 L[k].1) ∧ W.cell? ⟨w.heap.size + 1, k, none⟩ = some (.int .i64 (gi ms k)) ∧ Below w1.heap.size w1 W) from ⟨(hr1.bw3 hlt).1 ⟨W, h⟩, HF.out.2 k hlt ⟨W, h⟩, h⟩))
              have w1' : IntKind.i64.wrap (ll + gi ms k) = ll + gi ms k := by simp [IntKind.wrap, IntKind.bits, IntKind.signed]; omega
              have w2' : IntKind.i64.wrap (hh + gi ms k) = hh + gi ms k := by simp [IntKind.wrap, IntKind.bits, IntKind.signed]; omega
              have hwl : w1.heap.size ≤ wo.heap.size := hb.size
              obtain ⟨wz, rfl⟩ : ∃ W : World, W = wr := ⟨_, rfl⟩
              have hownz := own_bel HO.out.2.1 hbx
              have hbx1 := bthen hb hbx
              clear y0 s1 s2
              go_wp2_with fail
              go_region_held3 (fun W => W.cell? ⟨b, off + k * 3, none⟩ = some (.int .i64 L[k].1) ∧ W.cell? ⟨w.heap.size + 1, k, none⟩ = some (.int .i64 (gi ms k)) ∧ Below w1.heap.size w1 W)
                (first | assumption | exact hHS.out _ (bdrew hbx1) | exact hHS.out _ (by assumption) | (go_split_ands; first | exact hHS.out _ (by assumption) | exact hHS.out _ (balloc (by assumption) _) | exact hHS.out _ (bdrew (balloc hbx1 _))))
                ((go_split_ands; refine step_append_sl (size := 3) (by rfl) _ _ 44 (by rfl) w1.heap.size 41 i0 (.agg #[.int .i64 0, .int .i64 0, .int .i64 0]) 24 Try.underlying44 hi hz0 hz1 hz2 (by rfl) (by decide) _ _ _ (by rfl) (by first | exact (hownz.alloc _).drew | exact hownz.drew.alloc _ | exact hownz.alloc _) 1 1 [.int .i64 L[k].1, .int .i64 (ll + gi ms k), .int .i64 (hh + gi ms k)] (by rfl) (slr_blk (cs := [.int .i64 L[k].1, .int .i64 (ll + gi ms k), .int .i64 (hh + gi ms k)]) (by first | exact (Blk.new wz 41 _).drew | exact Blk.new wz 41 _)) (Below.refl _ _) (by simp [Value.oneCell']) (by unfold maxLen; omega) (by omega) (by exact Below.size (by assumption)) ?_; intro v4 w4 hown4 hgrow hor; have hb4 : Below w1.heap.size w1 w4 := bgrown (by assumption) hgrow (fun j e => (hownz.lt j e).1)))
              have hb4 : Below w1.heap.size w1 w4 := by assumption
              go_wp2_with fail
              go_roundw
              case rel =>
                refine ⟨k + 1, out ++ [(L[k].1, ll + gi ms k, hh + gi ms k)], by omega, by go_num, by rw [List.length_append, HO.out.2.2]; rfl, fun j h h' => ?_, ?_, hb4⟩
                · by_cases e : j < out.length
                  · rw [List.getElem_append_left e]
                    exact HO.out.1 j h e
                  · have hol := HO.out.2.2
                    have e2 : j = k := by rw [List.length_append] at h'; simp at h'; omega
                    subst e2
                    rw [List.getElem_append_right (by omega)]
                    simp only [hol, Nat.sub_self, List.getElem_cons_zero]
                    exact ⟨rfl, HX.out.2.2, HX.out.1, HX.out.2.1, by simp only []; omega⟩
                · rw [List.flatMap_append]
                  exact hown4
              case measure => simp [intOf]; omega
      · have hkl : k = L.length := by omega
        have HO := hide (And.intro hout (And.intro hown hol))
        clear hout hown hol
        go_wp2_with fail
        go_ret2
        obtain ⟨hout, hown, hol⟩ := HO.out
        refine ⟨bthen hbw hb, .inl ⟨_, out, rfl, ?_, by omega, hout⟩⟩
        rw [hol]
        exact own_mono hown hbw.size
  · have HB := hide hbad
    clear hbad
    go_wp2_with fail
    go_ret2
    exact ⟨hbw, .inr ⟨rfl, s, hsL, .inl HB.out⟩⟩
end Go.Proofs.Ytenhghkiapkejaa
