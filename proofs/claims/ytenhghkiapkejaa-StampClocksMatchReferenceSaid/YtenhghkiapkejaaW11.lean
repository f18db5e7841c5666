/- Contract of tight (f42): the tight relation over the shared meets. -/
import Derived.Test.YtenhghkiapkejaaTightP
import Derived.Deep.LoopGhost
import Derived.BigRegion
namespace Go.Proofs.Ytenhghkiapkejaa
open Go.RowKit
/-- what tight leaves -/
def TightPost (L : List I3) (l : List I4) (w : World) (e : Ending) (w' : World) : Prop :=
  (∃ v out, e = .returned (.tuple #[v, .bool true]) ∧ w'.ownsRow w.heap.size 41 3 v out.length (out.flatMap c3) ∧ TightOk L l out ∧ Below w.heap.size w w') ∨
    (e = .returned (.tuple #[.slice none 0 0, .bool false]) ∧ TightBad L l ∧ Below w.heap.size w w')
theorem owns_slice {w : World} {base : Nat} {e : TypeId} {size : Nat} {v : Value} {n : Nat} {xs : List Value} (h : w.ownsRow base e size v n xs) (hn : 0 < n) : ∃ g c, v = .slice (some ⟨g, 0, none⟩) n c ∧ base ≤ g ∧ n ≤ c ∧ c ≤ 9223372036854775807 := by
  rcases h.2 with ⟨_, h0⟩ | ⟨g, c, cur, hv, hb, _, hn', hc, _⟩
  · omega
  · exact ⟨g, c, hv, hb, hn', by simpa [maxLen] using hc⟩
def OutsInv (L : List I3) (l : List I4) (k : Nat) (outs : List I3) : Prop :=
  outs.length = L.length ∧ (∀ j (h : j < L.length) (h' : j < outs.length), j < k → TOne L l L[j] outs[j]) ∧ (∀ j (h : j < L.length) (h' : j < outs.length), k ≤ j → outs[j] = L[j])
theorem bpL_get1 (L : List I3) (q : Int) : ((bpL L).lookup q).getD (.agg #[.int .i64 0, .int .i64 0]) = .agg #[.int .i64 (blo L q), .int .i64 (bhi L q)] := by
  rw [bpL_lookup]
  unfold blo bhi
  cases bndF L q with
  | none => rfl
  | some b => rfl
theorem blo_bd {L : List I3} (hs : skOk (-1) L = true) (q : Int) : -100000 ≤ blo L q ∧ blo L q ≤ 100000 ∧ -100000 ≤ bhi L q ∧ bhi L q ≤ 100000 := by
  unfold blo bhi
  cases hb : bndF L q with
  | none => simp
  | some b => have := skOk_bnd (-1) L q b hs hb; simp; omega
theorem skOk_get {q : Int} {L : List I3} (hs : skOk q L = true) (k : Nat) (h : k < L.length) : -100000 ≤ L[k].2.1 ∧ L[k].2.1 ≤ 100000 ∧ L[k].2.2 ≤ 100000 ∧ -100000 ≤ L[k].2.2 ∧ 0 ≤ L[k].1 - q - 1 ∧ L[k].1 ≤ 39 := by
  induction L generalizing q k with
  | nil => simp at h
  | cons s L ih =>
    simp only [skOk, Bool.and_eq_true, decide_eq_true_eq, inB_iff] at hs
    cases k with
    | zero => simp only [List.getElem_cons_zero]; omega
    | succ k =>
      have := ih hs.2.2.2.2 k (by simpa using h)
      simp only [List.getElem_cons_succ]
      omega
theorem own_at3 {w : World} {base g c : Nat} {e : TypeId} {l : List I3} (h : w.ownsRow base e 3 (.slice (some ⟨g, 0, none⟩) l.length c) l.length (l.flatMap c3)) (k : Nat) (hk : k < l.length) :
    w.cell? ⟨g, k * 3, none⟩ = some (.int .i64 l[k].1) ∧ w.cell? ⟨g, k * 3 + 1, none⟩ = some (.int .i64 l[k].2.1) ∧ w.cell? ⟨g, k * 3 + 2, none⟩ = some (.int .i64 l[k].2.2) := by
  have gg := flat_get c3 3 (fun _ => rfl) l k hk
  refine ⟨?_, ?_, ?_⟩
  · rw [h.cellAt (k * 3) (by omega)]; exact gg 0 (by omega)
  · rw [h.cellAt (k * 3 + 1) (by omega)]; simpa [c3] using gg 1 (by omega)
  · rw [h.cellAt (k * 3 + 2) (by omega)]; simpa [c3] using gg 2 (by omega)
theorem flat_set1 : ∀ (l : List I3) (k : Nat) (a b b' c : Int), l[k]? = some (a, b, c) → (l.flatMap c3).set (k * 3 + 1) (.int .i64 b') = (l.set k (a, b', c)).flatMap c3
  | [], _, _, _, _, _, h => by simp at h
  | x :: l, 0, a, b, b', c, h => by simp at h; subst h; simp [c3]
  | x :: l, k + 1, a, b, b', c, h => by
    have ih := flat_set1 l k a b b' c (by simpa using h)
    have e : (k + 1) * 3 + 1 = (k * 3 + 1) + 1 + 1 + 1 := by omega
    simp only [List.flatMap_cons, List.set_cons_succ, ← ih, c3, e, List.cons_append, List.nil_append]
theorem flat_set2 : ∀ (l : List I3) (k : Nat) (a b c c' : Int), l[k]? = some (a, b, c) → (l.flatMap c3).set (k * 3 + 2) (.int .i64 c') = (l.set k (a, b, c')).flatMap c3
  | [], _, _, _, _, _, h => by simp at h
  | x :: l, 0, a, b, c, c', h => by simp at h; subst h; simp [c3]
  | x :: l, k + 1, a, b, c, c', h => by
    have ih := flat_set2 l k a b c c' (by simpa using h)
    have e : (k + 1) * 3 + 2 = (k * 3 + 2) + 1 + 1 + 1 := by omega
    simp only [List.flatMap_cons, List.set_cons_succ, ← ih, c3, e, List.cons_append, List.nil_append]
theorem own_below {w w' : World} {base B : Nat} {e : TypeId} {size : Nat} {v : Value} {n : Nat} {xs : List Value} (h : w.ownsRow base e size v n xs) (hb : Below B w w') (hB : w.heap.size ≤ B) : w'.ownsRow base e size v n xs := by
  refine ⟨h.1, ?_⟩
  rcases h.2 with hv | ⟨g, c', cur, h1, h2, h3, h4⟩
  · exact .inl hv
  · exact .inr ⟨g, c', cur, h1, h2, (hb.block g (by have := (Array.getElem?_eq_some_iff.1 h3).1; omega)).trans h3, h4⟩
/-- what holds in memory while one skew is tightened -/
def TInv (L : List I3) (w : World) (g cv bm r b k : Nat) (outs : List I3) (D : List (Int × Int)) (p lo hi : Int) (N : Nat) (W : World) : Prop :=
  ∃ (P F : List (Int × Value)) (lo' hi' : Int), N = F.length ∧ IRg W r b (dv D) F ∧ (dv D).Perm (P ++ F) ∧ LoIs L P lo lo' ∧ HiIs L P hi hi' ∧ -300000000 ≤ lo' ∧ lo' ≤ 300000000 ∧ -300000000 ≤ hi' ∧ hi' ≤ 300000000 ∧
    W.ownsRow w.heap.size 41 3 (.slice (some ⟨g, 0, none⟩) L.length cv) L.length ((outs.set k (p, lo', hi')).flatMap c3) ∧ IM W bm (bpL L) ∧ Below w.heap.size w W
theorem tstep {L : List I3} {w : World} {g cv bm r b k : Nat} {outs : List I3} {D : List (Int × Int)} {p lo hi lo' hi' q n bl bh X Y : Int} {P F F' : List (Int × Value)} {w5 w6 : World} (o : Obj) (hw6 : w5.alloc o = w6)
    (hbl : bl = blo L q) (hbh : bh = bhi L q) (hol : k < outs.length) (hnb : -200000000 ≤ n ∧ n ≤ 200000000) (hqb : -100000 ≤ bl ∧ bl ≤ 100000 ∧ -100000 ≤ bh ∧ bh ≤ 100000)
    (hperm : (dv D).Perm (P ++ F)) (hperm' : F.Perm ((q, .int .i64 n) :: F')) (hlo : LoIs L P lo lo') (hhi : HiIs L P hi hi') (hl : -300000000 ≤ lo' ∧ lo' ≤ 300000000) (hh : -300000000 ≤ hi' ∧ hi' ≤ 300000000)
    (hown : w5.ownsRow w.heap.size 41 3 (.slice (some ⟨g, 0, none⟩) L.length cv) L.length ((outs.set k (p, lo', hi')).flatMap c3)) (him : IM w5 bm (bpL L)) (hb : Below w.heap.size w w5) (hrg : IRg w5 r b (dv D) F')
    (hX : X = max lo' (bl - n)) (hY : Y = min hi' (bh - n)) :
    TInv L w g cv bm r b k outs D p lo hi F'.length (((w6.setCell ⟨g, k * 3 + 1, none⟩ (.int .i64 X)).setCell ⟨g, k * 3 + 2, none⟩ (.int .i64 Y)).drew) := by
  subst hw6
  have hgb : w.heap.size ≤ g := (hown.lt g rfl).1
  have h1 := ((hown.alloc o).stored (k * 3 + 1) (.int .i64 X)).1.stored (k * 3 + 2) (.int .i64 Y)
  rw [flat_set1 _ k p lo' X hi' (by rw [List.getElem?_set_self hol]), List.set_set, flat_set2 _ k p X hi' Y (by rw [List.getElem?_set_self hol]), List.set_set] at h1
  refine ⟨(q, .int .i64 n) :: P, F', X, Y, rfl, (((hrg.alloc o).setCell _ _).setCell _ _).drew, ?_, ?_, ?_, by omega, by omega, by omega, by omega, h1.1.drew, (((him.alloc o).setCell _ _).setCell _ _).drew, bdrew (bset (bset (balloc hb o) (by simpa using hgb) _) (by simpa using hgb) _)⟩
  · refine hperm.trans ((List.Perm.append_left P hperm').trans ?_)
    exact List.perm_middle
  · rw [hX, hbl]; exact hlo.step
  · rw [hY, hbh]; exact hhi.step
set_option maxRecDepth 100000 in
set_option maxHeartbeats 1000000 in
theorem f42 (A B : Option Addr) (L : List I3) (l : List I4) (c d : Nat) (w : World) (hn : L.length ≤ c) (hc : c ≤ 9223372036854775807) (hm : l.length ≤ d) (hd : d ≤ 9223372036854775807)
    (hsk : skOk (-1) L = true) (hL : L.length ≤ 1000) (hok : ∀ m ∈ l, mtOk m) (h60 : l.length ≤ 60)
    (hr : SlR w w.heap.size 3 A L.length (L.flatMap c3)) (hs : SlR w w.heap.size 4 B l.length (l.flatMap c4)) :
    Calls Try.prog 42 #[.slice A L.length c, .slice B l.length d] w (TightPost L l w) := by
  go_enter Try.func42, Try.ntmps42
  go_wp2_with fail
  refine (f45 A L c _ hn hc hr).mono ?_
  rintro e w1 ⟨bm, rfl, hbm, him, hb1⟩
  go_wp2_with fail
  refine (f58 A L c _ hn hc (by omega) (hr.to hb1)).mono ?_
  rintro e w2 ⟨v, rfl, hown, hb2⟩
  have hb12 := bthen hb1 hb2
  have him2 := him.below hb2 him.lt
  have hown2 : w2.ownsRow w.heap.size 41 3 v L.length (L.flatMap c3) := by
    refine ⟨hown.1, ?_⟩
    rcases hown.2 with h | ⟨g, c', cur, h1, h2, h3⟩
    · exact .inl h
    · exact .inr ⟨g, c', cur, h1, Nat.le_trans hb1.size h2, h3⟩
  have hbm2 : ∀ g, v.ownBlock = some g → bm < g := fun g hg => by have := (hown.lt g hg).1; have := him.lt; omega
  clear hown him hb1 hb2 hr
  rcases Nat.eq_zero_or_pos L.length with h0 | h0
  · have hnil : L = [] := List.eq_nil_of_length_eq_zero h0
    subst hnil
    obtain ⟨A', cv, rfl, hcv1, hcv2, _⟩ := SlR.of_own hown2
    have HO := hide hown2
    clear hown2 hbm2 h0
    go_wp2_with fail
    go_loopw [21] (fun i wr => i = .int .i64 0 ∧ wr = w2) (fun i _ => 0)
    case atStart => exact ⟨rfl, rfl⟩
    case round =>
      obtain ⟨rfl, rfl⟩ := hrel
      go_wp2
      go_ret2
      exact .inl ⟨_, [], rfl, HO.out, ⟨rfl, fun k h => absurd h (by simp)⟩, hb12⟩
  · obtain ⟨g, cv, rfl, hgb, hcv1, hcv2⟩ := owns_slice hown2 h0
    have hbmg := hbm2 g rfl
    clear hbm2
    go_wp2_with fail
    go_loopw [21] (fun i wr => ∃ (k : Nat) (outs : List I3), k ≤ L.length ∧ i = .int .i64 k ∧ OutsInv L l k outs ∧ wr.ownsRow w.heap.size 41 3 (.slice (some ⟨g, 0, none⟩) L.length cv) L.length (outs.flatMap c3) ∧ IM wr bm (bpL L) ∧ Below w.heap.size w wr ) (fun i _ => L.length - (intOf i).toNat)
    case atStart => exact ⟨0, L, Nat.zero_le _, rfl, ⟨rfl, fun _ _ _ h => absurd h (by omega), fun _ _ _ _ => rfl⟩, hown2, him2, hb12⟩
    case round =>
      obtain ⟨k, outs, hk, rfl, hinv, hown, him, hb⟩ := hrel
      by_cases hlt : k < L.length
      · have hol := hinv.1
        have hown' := hown
        rw [← hol] at hown'
        obtain ⟨x0, x1, x2⟩ := own_at3 hown' k (by omega)
        have hz := hinv.2.2 k hlt (by omega) (Nat.le_refl _)
        rw [hz] at x0 x1 x2
        have hbd := skOk_get hsk k hlt
        have HI := hide (And.intro hinv hown)
        have hmem : L[k] ∈ L := List.getElem_mem hlt
        obtain ⟨⟨p, lo, hi⟩, hsk'⟩ : ∃ s, L[k] = s := ⟨_, rfl⟩
        rw [hsk'] at x0 x1 x2 hbd hmem
        simp only [] at x0 x1 x2 hbd
        obtain ⟨hbd1, hbd2, hbd3, hbd4, _, _⟩ := hbd
        have HS := hide hsk'
        clear hz hown' hol hinv hown hsk'
        go_wp2_with fail
        refine (f51 p B l d _ hm hd hok h60 (hs.to hb)).mono ?_
        rintro e w3 hpost
        rcases hpost with ⟨b, D, rfl, hbb, himD, hD, hb3⟩ | ⟨rfl, hbad, hb3⟩
        · have hg : g < wr.heap.size := (HI.out.2.lt g rfl).2
          have hown3 := own_below HI.out.2 hb3 (Nat.le_refl _)
          have him3 := him.below hb3 him.lt
          have hb03 := bthen hb hb3
          have hg3 : g < w3.heap.size := by have := hb3.size; omega
          have hbm3 : bm < w3.heap.size := him3.lt
          have hw3 : w.heap.size ≤ w3.heap.size := hb03.size
          have HI3 := hide (And.intro hown3 (And.intro him3 hb03))
          have HD := hide hD
          clear hown3 him3 hb03 hD x0 x1 x2 hs hb3 him hb
          go_wp2_with (refine wpList_range_im rfl _ 92 rfl 3 3 Try.underlying92 rfl himD ?_; intro w4 hrg hg4 hs4)
          obtain ⟨wo, rfl⟩ : ∃ wo : World, wo = w3 := ⟨_, rfl⟩
          go_frame
          go_loopg [] D.length (fun N wr => TInv L w g cv bm wo.heap.size b k outs D p lo hi N wr)
          case atStart =>
            obtain ⟨h1, h2, h3⟩ := HI3.out
            obtain ⟨hinv, hown0⟩ := HI.out
            have hol := hinv.1
            have hself : outs.set k (p, lo, hi) = outs := by
              have h5 := hinv.2.2 k hlt (by omega) (Nat.le_refl _)
              rw [HS.out] at h5
              rw [← h5]
              exact List.set_getElem_self _
            refine ⟨[], dv D, lo, hi, by simp [dv], hrg, .refl _, LoIs.start _ _, HiIs.start _ _, by omega, by omega, by omega, by omega, ?_, h2.grown hg4 (by simp), bgrown h3 hg4 (fun k e => by cases e)⟩
            rw [hself]
            exact h1.kept hg4 (.inr (by simp [Value.ownBlock]))
          case round =>
            obtain ⟨P, F, lo', hi', rfl, hrg', hperm, hlo, hhi, hl1, hl2, hh1, hh2, hown4, him4, hb4⟩ := hrel
            have hol := HI.out.1.1
            have hget : (outs.set k (p, lo', hi'))[k]? = some (p, lo', hi') := by rw [List.getElem?_set_self (by omega)]
            have hownl : wr.ownsRow w.heap.size 41 3 (.slice (some ⟨g, 0, none⟩) (outs.set k (p, lo', hi')).length cv) (outs.set k (p, lo', hi')).length ((outs.set k (p, lo', hi')).flatMap c3) := by
              rw [List.length_set, hol]; exact hown4
            obtain ⟨x0, x1, x2⟩ := own_at3 hownl k (by rw [List.length_set]; omega)
            simp only [List.getElem_set_self] at x0 x1 x2
            have z1 := hown4.frozenAt (k * 3 + 1)
            have z2 := hown4.frozenAt (k * 3 + 2)
            have hgl : g < wr.heap.size := (hown4.lt g rfl).2
            have HP := hide (And.intro hperm (And.intro hlo (And.intro hhi (And.intro hown4 (And.intro him4 (And.intro hb4 (And.intro hget hrg')))))))
            clear hperm hlo hhi hown4 hownl hget hb4 hol hrg hg4 hs4
            go_wp2_with (refine wpList_next_im rfl _ rfl rfl hrg' ?_ ?_)
            · intro hF
              subst hF
              go_wp2
              go_region
              go_wp2
              · obtain ⟨hperm, hlo, hhi, hown4, him4, hb4, hget, _⟩ := HP.out
                rw [List.append_nil] at hperm
                go_ret2
                have hlt' : hi' < lo' := by assumption
                exact .inr ⟨rfl, ⟨_, hmem, .inr ⟨lo', hi', ⟨D, HD.out⟩, hlo.path HD.out hperm, hhi.path HD.out hperm, hlt'⟩⟩, bdrew hb4⟩
              · obtain ⟨hperm, hlo, hhi, hown4, him4, hb4, hget, _⟩ := HP.out
                rw [List.append_nil] at hperm
                have hle' : lo' ≤ hi' := by assumption
                go_roundw
                case rel =>
                  refine ⟨k + 1, outs.set k (p, lo', hi'), by omega, by go_num, ⟨by rw [List.length_set]; exact HI.out.1.1, fun j hj hj' hjk => ?_, fun j hj hj' hjk => ?_⟩, hown4.drew, him4.drew, bdrew hb4⟩
                  · by_cases hjk' : j = k
                    · subst hjk'
                      rw [List.getElem_set_self, HS.out]
                      exact ⟨rfl, ⟨D, HD.out⟩, hlo.path HD.out hperm, hhi.path HD.out hperm, hle'⟩
                    · rw [List.getElem_set_ne (fun e => hjk' e.symm)]
                      exact HI.out.1.2.1 j hj (by rw [List.length_set] at hj'; exact hj') (by omega)
                  · rw [List.getElem_set_ne (by omega)]
                    exact HI.out.1.2.2 j hj (by rw [List.length_set] at hj'; exact hj') (by omega)
                case measure => simp [intOf]; omega
            · intro q v F' w5 hpm hperm' hrg5 hg5 hs5 hent
              obtain ⟨hperm, hlo, hhi, hown4, him4, hb4, hget, _⟩ := HP.out
              obtain ⟨n, rfl, hqn⟩ : ∃ n, v = .int .i64 n ∧ D.lookup q = some n := by
                unfold dv at hpm
                obtain ⟨⟨a, m⟩, ha, he⟩ := List.mem_map.1 hpm
                injection he with e1 e2
                simp only [] at e1 e2
                subst e1
                exact ⟨m, e2.symm, (mem_lookup HD.out.1 a m).1 ha⟩
              have hnb := HD.out.2.2 q n hqn
              obtain ⟨hn1, hn2⟩ := hnb
              obtain ⟨bq1, bq2, bq3, bq4⟩ := blo_bd hsk q
              have hown5 := hown4.kept hg5 (.inr (by simp [Value.ownBlock]; omega))
              have him5 := him4.grown hg5 (by simp; omega)
              have hb5 := bgrown hb4 hg5 (fun k e => by cases e; omega)
              have hol := HI.out.1.1
              have hownl : w5.ownsRow w.heap.size 41 3 (.slice (some ⟨g, 0, none⟩) (outs.set k (p, lo', hi')).length cv) (outs.set k (p, lo', hi')).length ((outs.set k (p, lo', hi')).flatMap c3) := by
                rw [List.length_set, hol]; exact hown5
              obtain ⟨y0, y1, y2⟩ := own_at3 hownl k (by rw [List.length_set]; omega)
              simp only [List.getElem_set_self] at y0 y1 y2
              have v1 := hown5.frozenAt (k * 3 + 1)
              have v2 := hown5.frozenAt (k * 3 + 2)
              have hgl5 : g < w5.heap.size := by omega
              clear hs5
              have HQ := hide (And.intro hperm (And.intro hperm' (And.intro hlo (And.intro hhi (And.intro hown5 (And.intro him5 (And.intro hb5 (And.intro hget hrg5))))))))
              clear hperm hperm' hlo hhi hown5 hownl hget hb4 hol hown4 him4 hb5 x0 x1 x2 z1 z2 hg5 hrg5 hqn hpm
              have HV := hide (bpL_get1 L q)
              obtain ⟨bl, hbl⟩ : ∃ bl, bl = blo L q := ⟨_, rfl⟩
              obtain ⟨bh, hbh⟩ : ∃ bh, bh = bhi L q := ⟨_, rfl⟩
              rw [← hbl] at HV bq1 bq2
              rw [← hbh] at HV bq3 bq4
              have HB := hide (And.intro hbl hbh)
              clear hbl hbh
              go_wp2_with (at_lookup; refine wpList_lookup_im rfl _ _ 84 false rfl 3 88 _ Try.underlying84 Try.underlying3 (zv88 _) rfl him5 q rfl (.agg #[.int .i64 bl, .int .i64 bh]) HV.out ?_)
              obtain ⟨w6, hw6⟩ : ∃ w6, w5.alloc (.cells #[.int .i64 bl, .int .i64 bh] 88) = w6 := ⟨_, rfl⟩
              rw [hw6]
              have c0 : w6.cell? ⟨w5.heap.size, 0, none⟩ = some (.int .i64 bl) := by rw [← hw6]; exact (Blk.new w5 88 [.int .i64 bl, .int .i64 bh]).all2.1
              have c1 : w6.cell? ⟨w5.heap.size, 1, none⟩ = some (.int .i64 bh) := by rw [← hw6]; exact (Blk.new w5 88 [.int .i64 bl, .int .i64 bh]).all2.2.1
              have d1 : w6.cell? ⟨g, k * 3 + 1, none⟩ = some (.int .i64 lo') := by rw [← hw6, World.cell?_alloc_lt _ _ _ hgl5]; exact y1
              have d2 : w6.cell? ⟨g, k * 3 + 2, none⟩ = some (.int .i64 hi') := by rw [← hw6, World.cell?_alloc_lt _ _ _ hgl5]; exact y2
              have e1 : w6.frozen? ⟨g, k * 3 + 1, none⟩ = false := by rw [← hw6]; simpa [go_sem, hgl5] using v1
              have e2 : w6.frozen? ⟨g, k * 3 + 2, none⟩ = false := by rw [← hw6]; simpa [go_sem, hgl5] using v2
              have hne : g ≠ w5.heap.size := by omega
              have HW := hide hw6
              clear hw6 y0 y1 y2 v1 v2
              go_region
              go_wp2
              all_goals
                obtain ⟨hperm, hperm', hlo, hhi, hown5, him5', hb5, hget, hrg5⟩ := HQ.out
                go_roundg F'.length
                case measure => have := hperm'.length_eq; simp only [List.length_cons] at this; omega
                case rel => exact tstep _ HW.out HB.out.1 HB.out.2 (by have := HI.out.1.1; omega) ⟨hn1, hn2⟩ ⟨bq1, bq2, bq3, bq4⟩ hperm hperm' hlo hhi ⟨hl1, hl2⟩ ⟨hh1, hh2⟩ hown5 him5' hb5 hrg5 (by omega) (by omega)
        · go_wp2
          go_ret2
          exact .inr ⟨rfl, ⟨_, hmem, .inl hbad⟩, bthen hb hb3⟩
      · obtain rfl : k = L.length := by omega
        have HI := hide (And.intro hinv hown)
        clear hinv hown
        go_wp2
        go_ret2
        obtain ⟨h1, h2⟩ := HI.out
        refine .inl ⟨_, outs, rfl, ?_, ⟨h1.1, fun j hj hj' => h1.2.1 j hj hj' hj⟩, hb⟩
        rw [h1.1]; exact h2
end Go.Proofs.Ytenhghkiapkejaa
