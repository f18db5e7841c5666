/- Contract of the reference's Order. -/
import Derived.Test.YtenhghkiapkejaaR7
import Derived.Test.YtenhghkiapkejaaR1
namespace Go.Proofs.Ytenhghkiapkejaa
open Go.RowKit
def RoBad (L : List I3) (l : List I4) (a b : I3) : Prop := stVal a = false ∨ stVal b = false ∨ fnd L a.2.1 < 0 ∨ fnd L b.2.1 < 0 ∨ proper L l = false ∨ ∃ k, k < l.length ∧ TBd L (l.take (k + 1))
def RoOk (L : List I3) (l : List I4) (a b : I3) (r : Int) : Prop :=
  stVal a = true ∧ stVal b = true ∧ proper L l = true ∧ ∃ out, TOk L l out ∧ ∃ (i k : Nat) (hi : i < out.length) (hk : k < out.length), a.2.1 = out[i].1 ∧ b.2.1 = out[k].1 ∧ Cert l out[i] out[k] (a.1 - b.1) r
def RoPost (L : List I3) (l : List I4) (a b : I3) (w : World) (e : Ending) (w' : World) : Prop :=
  Below w.heap.size w w' ∧ ((RoBad L l a b ∧ e = .returned (.tuple #[.int .i64 0, .int .i64 60])) ∨ ∃ r, RoOk L l a b r ∧ e = .returned (.tuple #[.int .i64 r, .int .i64 0]))
theorem blk_nw (w : World) (o : Obj) (t : TypeId) (cs : List Value) : Blk ((w.alloc o).alloc (.cells cs.toArray t)) (w.heap.size + 1) t cs := by
  have h := Blk.new (w.alloc o) t cs
  have e : (w.alloc o).heap.size = w.heap.size + 1 := by simp
  rw [e] at h
  exact h
theorem TOk.bnd {L : List I3} {l : List I4} {out : List I3} (hs : skOk (-1) L = true) (hok : TOk L l out) {i : Nat} (hi : i < out.length) : -100000 ≤ out[i].2.1 ∧ out[i].2.2 ≤ 100000 ∧ out[i].2.1 ≤ out[i].2.2 := by
  have hiL : i < L.length := by rw [← hok.1]; exact hi
  have h1 := hok.2 i hiL hi
  have h2 := skOk_get hs i hiL
  have a := h1.2.2.1.1
  have b := h1.2.2.2.1.1
  have e := h1.2.2.2.2
  omega
theorem ordI_eq (d lo hi : Int) : ordI d lo hi = if d - lo < 0 then -1 else if 0 < d - hi then 1 else 0 := by
  unfold ordI
  split <;> split <;> (try split) <;> (try split) <;> omega
set_option maxRecDepth 100000 in
set_option maxHeartbeats 2000000 in
theorem f32 (A B : Option Addr) (L : List I3) (l : List I4) (a b : I3) (c d : Nat) (w : World) (hn : L.length ≤ c) (hc : c ≤ 9223372036854775807) (hm : l.length ≤ d) (h8 : l.length ≤ 8) (hL : L.length ≤ 100)
    (hr : SlR w w.heap.size 3 A L.length (L.flatMap c3)) (hs : SlR w w.heap.size 4 B l.length (l.flatMap c4)) :
    Calls Try.prog 32 #[.slice A L.length c, .slice B l.length d, .agg #[.int .i64 a.1, .int .i64 a.2.1, .int .i64 a.2.2], .agg #[.int .i64 b.1, .int .i64 b.2.1, .int .i64 b.2.2]] w (RoPost L l a b w) := by
  go_enter Try.func32, Try.ntmps32
  have hq1 := (Blk.new w 24 [.int .i64 a.1, .int .i64 a.2.1, .int .i64 a.2.2]).alloc (.cells #[.int .i64 b.1, .int .i64 b.2.1, .int .i64 b.2.2] 24)
  have hq2 := blk_nw w (.cells #[.int .i64 a.1, .int .i64 a.2.1, .int .i64 a.2.2] 24) 24 [.int .i64 b.1, .int .i64 b.2.1, .int .i64 b.2.2]
  have hb0 := balloc (balloc (Below.refl w.heap.size w) (.cells #[.int .i64 a.1, .int .i64 a.2.1, .int .i64 a.2.2] 24)) (.cells #[.int .i64 b.1, .int .i64 b.2.1, .int .i64 b.2.2] 24)
  cases va : stVal a
  · go_wp2_with fail
    refine (f21v va _).mono ?_
    rintro e w1 ⟨rfl, hb1⟩
    have HB := hide (.inl va : RoBad L l a b)
    clear va
    go_wp2_with fail
    go_ret2
    exact ⟨bthen hb0 hb1, .inl ⟨HB.out, rfl⟩⟩
  · go_wp2_with fail
    refine (f21v va _).mono ?_
    rintro e w1 ⟨rfl, hb1⟩
    have hq1 := hq1.below hb1 hq1.lt
    have hq2 := hq2.below hb1 hq2.lt
    have hb1 := bthen hb0 hb1
    clear hb0
    have Va := hide va
    clear va
    cases vb : stVal b
    · obtain ⟨x0, x1, x2, _⟩ := hq1.all3
      obtain ⟨y0, y1, y2, _⟩ := hq2.all3
      go_wp2_with fail
      refine (f21v vb _).mono ?_
      rintro e w2 ⟨rfl, hb2⟩
      have HB := hide (.inr (.inl vb) : RoBad L l a b)
      clear vb
      go_wp2_with fail
      go_ret2
      exact ⟨bthen hb1 hb2, .inl ⟨HB.out, rfl⟩⟩
    · obtain ⟨x0, x1, x2, _⟩ := hq1.all3
      obtain ⟨y0, y1, y2, _⟩ := hq2.all3
      go_wp2_with fail
      refine (f21v vb _).mono ?_
      rintro e w2 ⟨rfl, hb2⟩
      have hq1 := hq1.below hb2 hq1.lt
      have hq2 := hq2.below hb2 hq2.lt
      have hb2 := bthen hb1 hb2
      clear hb1 x0 x1 x2 y0 y1 y2
      have Vb := hide vb
      clear vb
      obtain ⟨x0, x1, x2, _⟩ := hq1.all3
      obtain ⟨y0, y1, y2, _⟩ := hq2.all3
      have hl1 := hq1.lt
      have hl2 := hq2.lt
      obtain ⟨fa, hfa⟩ : ∃ fa, fnd L a.2.1 = fa := ⟨_, rfl⟩
      obtain ⟨fb, hfb⟩ : ∃ fb, fnd L b.2.1 = fb := ⟨_, rfl⟩
      have HFa := hide hfa
      have HFb := hide hfb
      clear hfa hfb
      go_wp2_with fail
      refine (f49v HFa.out A c _ hn hc (hr.to hb2)).mono ?_
      rintro e w' ⟨rfl, rfl⟩
      cases na : decide (fa < 0)
      · go_wp2_with fail
        refine (f49v HFb.out A c _ hn hc (hr.to hb2)).mono ?_
        rintro e w' ⟨rfl, rfl⟩
        cases nb : decide (fb < 0)
        · go_wp2_with fail
          refine (f25 A B L l c d _ hn hc hm h8 hL (hr.to hb2) (hs.to hb2)).mono ?_
          rintro e w3 ⟨hb3, ⟨hpr, rfl⟩ | ⟨hpr, v, out, rfl, hown, hok⟩ | ⟨hpr, k, rfl, hk, hbad, _⟩⟩
          · have HB := hide (.inr (.inr (.inr (.inr (.inl hpr)))) : RoBad L l a b)
            clear hpr
            go_wp2_with fail
            go_ret2
            exact ⟨bthen hb2 hb3, .inl ⟨HB.out, rfl⟩⟩
          · obtain ⟨C, cc, rfl, hcc1, hcc2, hO⟩ := SlR.of_own hown
            have hq1 := hq1.below hb3 hq1.lt
            have hq2 := hq2.below hb3 hq2.lt
            have hb23 := bthen hb2 hb3
            clear x0 x1 x2 y0 y1 y2 hown hb3
            obtain ⟨x0, x1, x2, _⟩ := hq1.all3
            obtain ⟨y0, y1, y2, _⟩ := hq2.all3
            have hl1 := hq1.lt
            have hl2 := hq2.lt
            obtain ⟨hsk, _, _⟩ := proper_sk hpr
            obtain ⟨i, hiL, e1, e2, _⟩ := (fnd_bnd hsk a.2.1).resolve_left (fun h => by rw [HFa.out] at h; rw [h.1] at na; cases na)
            obtain ⟨k, hkL, e3, e4, _⟩ := (fnd_bnd hsk b.2.1).resolve_left (fun h => by rw [HFb.out] at h; rw [h.1] at nb; cases nb)
            have hol := hok.1
            have hio : i < out.length := by omega
            have hko : k < out.length := by omega
            have bX := hok.bnd hsk hio
            have bY := hok.bnd hsk hko
            obtain ⟨bX1, bX2, bX3⟩ := bX
            obtain ⟨bY1, bY2, bY3⟩ := bY
            have ea : a.2.1 = out[i].1 := by rw [(hok.2 i hiL hio).1]; exact e2.symm
            have eb : b.2.1 = out[k].1 := by rw [(hok.2 k hkL hko).1]; exact e4.symm
            have da : 0 ≤ a.1 ∧ a.1 ≤ 1000000 := by have := Va.out; simp [stVal, inB] at this; omega
            have db : 0 ≤ b.1 ∧ b.1 ≤ 1000000 := by have := Vb.out; simp [stVal, inB] at this; omega
            obtain ⟨da1, da2⟩ := da
            obtain ⟨db1, db2⟩ := db
            have hnb := fun s hs' => (TOk.not_bd (l := l) (fun _ h => h) hok ⟨s, hs', ·⟩)
            have HX := hide (And.intro hok (And.intro ea (And.intro eb (And.intro hpr (And.intro e1 (And.intro e3 hol))))))
            have HNb := hide hnb
            clear hok ea eb hpr e1 e2 e3 e4 hsk hnb hol na nb
            have hii : (i : Int) < (out.length : Int) := by omega
            have hkk : (k : Int) < (out.length : Int) := by omega
            have hi0 : (0 : Int) ≤ (i : Int) := by omega
            have hk0 : (0 : Int) ≤ (k : Int) := by omega
            go_wp2_with fail
            refine (f49v (HFa.out.trans (HFa.out.symm.trans HX.out.2.2.2.2.1)) A c _ hn hc (hr.to hb23)).mono ?_
            rintro e w' ⟨rfl, rfl⟩
            go_wp2_with fail
            refine (f49v (HFb.out.trans (HFb.out.symm.trans HX.out.2.2.2.2.2.1)) A c _ hn hc (hr.to hb23)).mono ?_
            rintro e w' ⟨rfl, rfl⟩
            obtain ⟨bo, oo, rfl, _, _⟩ := hO.2 (by omega)
            obtain ⟨X0, X1, X2⟩ := hO.bw3 hio
            obtain ⟨Y0, Y1, Y2⟩ := hO.bw3 hko
            have hb33 := Below.refl w3.heap.size w3
            go_wp2_with fail
            refine wp_region_bw w3 (by assumption) (by kernel_rfl) (by kernel_rfl) ?_
            repeat (go_big_quiet_step (fail))
            refine wpQuiet_nil ?_
            intro w4 hbw4
            go_wp2_with fail
            refine wp_region_bw w3 (by assumption) (by kernel_rfl) (by kernel_rfl) ?_
            repeat (go_big_quiet_step (fail))
            refine wpQuiet_nil ?_
            intro w5 hbw5
            go_wp2_with fail
            have hb25 := bthen hb23 hbw5
            have hq1 := hq1.below hbw5 hq1.lt
            have hq2 := hq2.below hbw5 hq2.lt
            clear x0 x1 x2 y0 y1 y2 X0 X1 X2 Y0 Y1 Y2 hb33 hbw4
            refine (f52 A B L l c d _ hn hc HX.out.2.2.2.1 h8 hL (hr.to hb25) (hs.to hb25)).mono ?_
            rintro e w6 ⟨hb6, ⟨fs, ms, rfl, hJ, hj1, hj2⟩ | ⟨_, s, hsL, hbad⟩⟩
            · have hfl := hJ.1
              have hml := hJ.2.1
              have hiL : i < L.length := by have := HX.out.2.2.2.2.2.2; omega
              have hkL : k < L.length := by have := HX.out.2.2.2.2.2.2; omega
              have F1 : ∀ x : BW w6, x.val.cell? ⟨w5.heap.size, i, none⟩ = some (.int .i64 (gi fs i)) := fun x => blkA (hj1.below x.ok hj1.lt) hfl hiL
              have F2 : ∀ x : BW w6, x.val.cell? ⟨w5.heap.size, k, none⟩ = some (.int .i64 (gi fs k)) := fun x => blkA (hj1.below x.ok hj1.lt) hfl hkL
              have G1 : ∀ x : BW w6, x.val.cell? ⟨w5.heap.size + 1, i, none⟩ = some (.int .i64 (gi ms i)) := fun x => blkA (hj2.below x.ok hj2.lt) hml hiL
              have G2 : ∀ x : BW w6, x.val.cell? ⟨w5.heap.size + 1, k, none⟩ = some (.int .i64 (gi ms k)) := fun x => blkA (hj2.below x.ok hj2.lt) hml hkL
              have bi := hJ.2.2.2.2 i hiL
              have bkk := hJ.2.2.2.2 k hkL
              obtain ⟨bi1, bi2⟩ := bi
              obtain ⟨bk1, bk2⟩ := bkk
              have hiLi : (i : Int) < (L.length : Int) := by omega
              have hkLi : (k : Int) < (L.length : Int) := by omega
              have hb25 := bthen hb25 hb6
              have hb66 := Below.refl w6.heap.size w6
              have hpi : gp L i = out[i].1 := by rw [gp_at hiL, (HX.out.1.2 i hiL hio).1]
              have hpk : gp L k = out[k].1 := by rw [gp_at hkL, (HX.out.1.2 k hkL hko).1]
              have HJ := hide (And.intro hJ (And.intro hpi hpk))
              have x0 : ∀ x : BW w6, x.val.cell? ⟨w.heap.size, 0, none⟩ = some (.int .i64 a.1) := fun x => (hq1.below (bthen hb6 x.ok) hq1.lt).all3.1
              have y0 : ∀ x : BW w6, x.val.cell? ⟨w.heap.size + 1, 0, none⟩ = some (.int .i64 b.1) := fun x => (hq2.below (bthen hb6 x.ok) hq2.lt).all3.1
              clear hJ hj1 hj2 hpi hpk
              cases hq : (gi fs i == gi fs k)
              · have HCERT : Cert l out[i] out[k] (a.1 - b.1) (ordI (a.1 - b.1) (out[i].2.1 - out[k].2.2) (out[i].2.2 - out[k].2.1)) := by
                  refine .inr ⟨fun n hpn => ?_, rfl⟩
                  rw [← HJ.out.2.1] at hpn
                  obtain ⟨b', hb', e1, e2, _⟩ := HJ.out.1.path (proper_sk HX.out.2.2.2.1).2.2 hiL hpn
                  rw [← HJ.out.2.2] at e1
                  have := gp_one (proper_sk HX.out.2.2.2.1).1 hb' hkL e1
                  subst this
                  rw [e2] at hq
                  simp at hq
                go_wp2_with fail
                refine wp_region_bw w6 (by assumption) (by kernel_rfl) (by kernel_rfl) ?_
                repeat (go_big_quiet_step (fail))
                refine wpQuiet_nil ?_
                intro w7 hbw7
                have x0' := x0 ⟨_, hbw7⟩
                have y0' := y0 ⟨_, hbw7⟩
                simp only [] at x0' y0'
                have hre := ordI_eq (a.1 - b.1) (out[i].2.1 - out[k].2.2) (out[i].2.2 - out[k].2.1)
                have HR := hide (And.intro hre HCERT)
                clear hre HCERT
                cases d1 : decide (a.1 - b.1 - (out[i].2.1 - out[k].2.2) < 0)
                · have z1 := of_decide_eq_false d1
                  cases d2 : decide (0 < a.1 - b.1 - (out[i].2.2 - out[k].2.1))
                  · have z2 := of_decide_eq_false d2
                    go_wp2_with fail
                    go_ret2
                    refine ⟨bthen hb25 (by assumption), .inr ⟨0, ⟨Va.out, Vb.out, HX.out.2.2.2.1, out, HX.out.1, i, k, hio, hko, HX.out.2.1, HX.out.2.2.1, ?_⟩, rfl⟩⟩
                    have h := HR.out.2
                    rw [HR.out.1, if_neg (by omega), if_neg (by omega)] at h
                    exact h
                  · have z2 := of_decide_eq_true d2
                    go_wp2_with fail
                    go_ret2
                    refine ⟨bthen hb25 (by assumption), .inr ⟨1, ⟨Va.out, Vb.out, HX.out.2.2.2.1, out, HX.out.1, i, k, hio, hko, HX.out.2.1, HX.out.2.2.1, ?_⟩, rfl⟩⟩
                    have h := HR.out.2
                    rw [HR.out.1, if_neg (by omega), if_pos (by omega)] at h
                    exact h
                · have z1 := of_decide_eq_true d1
                  go_wp2_with fail
                  go_ret2
                  refine ⟨bthen hb25 (by assumption), .inr ⟨-1, ⟨Va.out, Vb.out, HX.out.2.2.2.1, out, HX.out.1, i, k, hio, hko, HX.out.2.1, HX.out.2.2.1, ?_⟩, rfl⟩⟩
                  have h := HR.out.2
                  rw [HR.out.1, if_pos (by omega)] at h
                  exact h
              · have HCERT : Cert l out[i] out[k] (a.1 - b.1) (ordI (a.1 - b.1) (gi ms i - gi ms k) (gi ms i - gi ms k)) := by
                  have hp := HJ.out.1.2.2.1 i k hiL hkL (by simpa using hq)
                  rw [HJ.out.2.1, HJ.out.2.2] at hp
                  have e : -(gi ms k - gi ms i) = gi ms i - gi ms k := by omega
                  exact .inl ⟨_, hp, by rw [e]⟩
                go_wp2_with fail
                refine wp_region_bw w6 (by assumption) (by kernel_rfl) (by kernel_rfl) ?_
                repeat (go_big_quiet_step (fail))
                refine wpQuiet_nil ?_
                intro w7 hbw7
                go_wp2_with fail
                refine wp_region_bw w6 (by assumption) (by kernel_rfl) (by kernel_rfl) ?_
                repeat (go_big_quiet_step (fail))
                refine wpQuiet_nil ?_
                intro w8 hbw8
                have x0' := x0 ⟨_, hbw8⟩
                have y0' := y0 ⟨_, hbw8⟩
                simp only [] at x0' y0'
                have hre := ordI_eq (a.1 - b.1) (gi ms i - gi ms k) (gi ms i - gi ms k)
                have HR := hide (And.intro hre HCERT)
                clear hre HCERT
                cases d1 : decide (a.1 - b.1 - (gi ms i - gi ms k) < 0)
                · have z1 := of_decide_eq_false d1
                  cases d2 : decide (0 < a.1 - b.1 - (gi ms i - gi ms k))
                  · have z2 := of_decide_eq_false d2
                    go_wp2_with fail
                    go_ret2
                    refine ⟨bthen hb25 (by assumption), .inr ⟨0, ⟨Va.out, Vb.out, HX.out.2.2.2.1, out, HX.out.1, i, k, hio, hko, HX.out.2.1, HX.out.2.2.1, ?_⟩, rfl⟩⟩
                    have h := HR.out.2
                    rw [HR.out.1, if_neg (by omega), if_neg (by omega)] at h
                    exact h
                  · have z2 := of_decide_eq_true d2
                    go_wp2_with fail
                    go_ret2
                    refine ⟨bthen hb25 (by assumption), .inr ⟨1, ⟨Va.out, Vb.out, HX.out.2.2.2.1, out, HX.out.1, i, k, hio, hko, HX.out.2.1, HX.out.2.2.1, ?_⟩, rfl⟩⟩
                    have h := HR.out.2
                    rw [HR.out.1, if_neg (by omega), if_pos (by omega)] at h
                    exact h
                · have z1 := of_decide_eq_true d1
                  go_wp2_with fail
                  go_ret2
                  refine ⟨bthen hb25 (by assumption), .inr ⟨-1, ⟨Va.out, Vb.out, HX.out.2.2.2.1, out, HX.out.1, i, k, hio, hko, HX.out.2.1, HX.out.2.2.1, ?_⟩, rfl⟩⟩
                  have h := HR.out.2
                  rw [HR.out.1, if_pos (by omega)] at h
                  exact h
            · exact absurd (.inl hbad) (HNb.out s hsL)
          · have HB := hide (.inr (.inr (.inr (.inr (.inr ⟨k, hk, hbad⟩)))) : RoBad L l a b)
            have hk0 : (0 : Int) ≤ (k : Int) := by omega
            clear hpr hbad
            go_wp2_with fail
            go_ret2
            exact ⟨bthen hb2 hb3, .inl ⟨HB.out, rfl⟩⟩
        · have HB := hide (.inr (.inr (.inr (.inl (by rw [HFb.out]; exact of_decide_eq_true nb)))) : RoBad L l a b)
          go_wp2_with fail
          go_ret2
          exact ⟨hb2, .inl ⟨HB.out, rfl⟩⟩
      · have HB := hide (.inr (.inr (.inl (by rw [HFa.out]; exact of_decide_eq_true na))) : RoBad L l a b)
        go_wp2_with fail
        go_ret2
        exact ⟨hb2, .inl ⟨HB.out, rfl⟩⟩
end Go.Proofs.Ytenhghkiapkejaa
