/- Contract: Merge. -/
import Derived.Test.YtncdombfhcfobaaGreatM17
import Derived.BigRegion
import Derived.Deep.DeepCutAuto
namespace Go.Proofs.YtncdombfhcfobaaGreat
open Go.RowKit
def atI' (ls : List It) (n : Int) : It := (getI ls n).getD zIt
theorem getI_id {ls : List It} {n : Int} {x : It} (h : getI ls n = some x) : x.id = n := by
  have := List.find?_some h
  simpa using this
theorem atI'_id {ls : List It} {n : Int} (h : (atI' ls n).kind ≠ 0) : (atI' ls n).id = n := by
  unfold atI' at *
  cases hg : getI ls n with
  | none => rw [hg] at h; exact absurd rfl h
  | some x => exact getI_id hg
/-- the item of a merged module; is it contested? -/
def mgX (z o t : It) : It := if t = z then o else if o = z then t else o
def mgC (z o t : It) : Bool := !decide (t = z) && !decide (o = z) && !decide (o = t)
def mgAt (lz lo lt : List It) (n : Nat) : It := mgX (atI' lz n) (atI' lo n) (atI' lt n)
def mgM (lz lo lt : List It) : Nat → List It
  | 0 => []
  | n + 1 => if (mgAt lz lo lt n).kind = 0 then mgM lz lo lt n else putI (mgAt lz lo lt n) (mgM lz lo lt n)
def mgG (lz lo lt : List It) : Nat → List Int
  | 0 => []
  | n + 1 => if mgC (atI' lz n) (atI' lo n) (atI' lt n) then mgG lz lo lt n ++ [(n : Int)] else mgG lz lo lt n
theorem mgM_len (lz lo lt : List It) : ∀ n, (mgM lz lo lt n).length ≤ n
  | 0 => by simp [mgM]
  | n + 1 => by
    have h1 := mgM_len lz lo lt n
    have h2 := putI_len (mgAt lz lo lt n) (mgM lz lo lt n)
    unfold mgM
    split <;> omega
theorem mgG_len (lz lo lt : List It) : ∀ n, (mgG lz lo lt n).length ≤ n
  | 0 => by simp [mgG]
  | n + 1 => by
    have h1 := mgG_len lz lo lt n
    unfold mgG
    split
    · simp; omega
    · omega
theorem mgX_id {lz lo lt : List It} {n : Nat} (h : (mgAt lz lo lt n).kind ≠ 0) : (mgAt lz lo lt n).id = n := by
  unfold mgAt mgX at *
  split at h
  · rw [if_pos (by assumption)]; exact atI'_id h
  · rw [if_neg (by assumption)]
    split at h
    · rw [if_pos (by assumption)]; exact atI'_id h
    · rw [if_neg (by assumption)]; exact atI'_id h
def mergeB (z o t : Mo) : Bool := (inB z.id 1 20 && itsOk z.items) && (inB o.id 1 20 && itsOk o.items) && (inB t.id 1 20 && itsOk t.items) && decide (o.id = z.id) && decide (t.id = z.id)
def MergePost (z o t : Mo) (w : World) (e : Ending) (w' : World) : Prop :=
  Below w.heap.size w w' ∧ ((mergeB z o t = false ∧ e = .returned (.tuple #[.agg #[.int .i64 0, .slice none 0 0], .slice none 0 0, .int .i64 140])) ∨
    (mergeB z o t = true ∧ ∃ s, SortOf (mgM (byL z.items) (byL o.items) (byL t.items) 100) s ∧
      (((inB z.id 1 20 && itsOk s) = false ∧ e = .returned (.tuple #[.agg #[.int .i64 0, .slice none 0 0], .slice none 0 0, .int .i64 140])) ∨
        ((inB z.id 1 20 && itsOk s) = true ∧ ∃ A n c v, e = .returned (.tuple #[.agg #[.int .i64 z.id, .slice A n c], v, .int .i64 0]) ∧ n ≤ c ∧ c ≤ 9223372036854775807 ∧ SlR w' w'.heap.size 6 A n (s.flatMap cI) ∧
          w'.ownsRow w.heap.size 3 1 v (mgG (byL z.items) (byL o.items) (byL t.items) 100).length ((mgG (byL z.items) (byL o.items) (byL t.items) 100).flatMap cN)))))
/-- what the sorted items' module looks like behind region 18 -/
def MgCut (wo : World) (id : Int) (L : List It) (v : Value) (wx : World) : Prop :=
  ∃ g s A n c, v = .pointer (some ⟨g, 0, none⟩) ∧ SortOf L s ∧ n ≤ c ∧ c ≤ 9223372036854775807 ∧ Blk wx g 37 [.int .i64 id, .slice A n c] ∧ wx.ownsRow wo.heap.size 27 6 (.slice A n c) n (s.flatMap cI) ∧ Below wo.heap.size wo wx ∧ wo.heap.size ≤ g
theorem own_im {W : World} {b g n : Nat} {e : TypeId} {k : Nat} {v : Value} {xs : List Value} {L : List (Int × Value)} (h : W.ownsRow b e k v n xs) (hm : IM W g L) : ∀ j, v.ownBlock = some j → j ≠ g := by
  intro j hj hjg
  subst hjg
  rcases h.2 with ⟨rfl, _⟩ | ⟨g', c', cur, rfl, q2, q3, _⟩
  · cases hj
  · simp only [Value.ownBlock, Option.some.injEq] at hj
    subst hj
    obtain ⟨es, ck, hh, _⟩ := hm
    rw [q3] at hh; cases hh
set_option maxRecDepth 100000 in
set_option maxHeartbeats 8000000 in
theorem c_Merge (rz ro rt : MR) (z o t : Mo) (w : World) (hez : rz.id = z.id) (heo : ro.id = o.id) (het : rt.id = t.id) (hnz : rz.n ≤ 9223372036854775807) (hno : ro.n ≤ 9223372036854775807) (hnt : rt.n ≤ 9223372036854775807)
    (hsz : SlR w w.heap.size 6 rz.a rz.n (z.items.flatMap cI)) (hso : SlR w w.heap.size 6 ro.a ro.n (o.items.flatMap cI)) (hst : SlR w w.heap.size 6 rt.a rt.n (t.items.flatMap cI)) :
    Calls Tryz.prog 35 #[mrV rz, mrV ro, mrV rt] w (MergePost z o t w) := by
  obtain ⟨i1, hi1, hy0, hy1, hy2⟩ := info_parts Tryz.infoInt
  have hmm := @run_makeMap Tryz.prog
  have hb0 := balloc (balloc (balloc (balloc (Below.refl w.heap.size w) (.cells #[.int .i64 rz.id, .slice rz.a rz.n rz.c] 37)) (.cells #[.int .i64 ro.id, .slice ro.a ro.n ro.c] 37)) (.cells #[.int .i64 rt.id, .slice rt.a rt.n rt.c] 37)) (.cells #[.int .i64 0, .slice none 0 0] 37)
  obtain ⟨w0, hw0⟩ : ∃ w0, (((w.alloc (.cells #[.int .i64 rz.id, .slice rz.a rz.n rz.c] 37)).alloc (.cells #[.int .i64 ro.id, .slice ro.a ro.n ro.c] 37)).alloc (.cells #[.int .i64 rt.id, .slice rt.a rt.n rt.c] 37)).alloc (.cells #[.int .i64 0, .slice none 0 0] 37) = w0 := ⟨_, rfl⟩
  have gZ : Blk w0 w.heap.size 37 (cM rz) := by rw [← hw0]; exact (((Blk.new w 37 (cM rz)).alloc _).alloc _).alloc _
  have gO : Blk w0 (w.heap.size + 1) 37 (cM ro) := by
    rw [← hw0]
    have := Blk.new (w.alloc (.cells #[.int .i64 rz.id, .slice rz.a rz.n rz.c] 37)) 37 (cM ro)
    rw [show (w.alloc (.cells #[.int .i64 rz.id, .slice rz.a rz.n rz.c] 37)).heap.size = w.heap.size + 1 from by simp] at this
    exact (this.alloc _).alloc _
  have gT : Blk w0 (w.heap.size + 1 + 1) 37 (cM rt) := by
    rw [← hw0]
    have := Blk.new ((w.alloc (.cells #[.int .i64 rz.id, .slice rz.a rz.n rz.c] 37)).alloc (.cells #[.int .i64 ro.id, .slice ro.a ro.n ro.c] 37)) 37 (cM rt)
    rw [show ((w.alloc (.cells #[.int .i64 rz.id, .slice rz.a rz.n rz.c] 37)).alloc (.cells #[.int .i64 ro.id, .slice ro.a ro.n ro.c] 37)).heap.size = w.heap.size + 1 + 1 from by simp] at this
    exact this.alloc _
  have gR : Blk w0 (w.heap.size + 1 + 1 + 1) 37 [.int .i64 0, .slice none 0 0] := by
    rw [← hw0]
    have := Blk.new (((w.alloc (.cells #[.int .i64 rz.id, .slice rz.a rz.n rz.c] 37)).alloc (.cells #[.int .i64 ro.id, .slice ro.a ro.n ro.c] 37)).alloc (.cells #[.int .i64 rt.id, .slice rt.a rt.n rt.c] 37)) 37 [.int .i64 0, .slice none 0 0]
    rw [show (((w.alloc (.cells #[.int .i64 rz.id, .slice rz.a rz.n rz.c] 37)).alloc (.cells #[.int .i64 ro.id, .slice ro.a ro.n ro.c] 37)).alloc (.cells #[.int .i64 rt.id, .slice rt.a rt.n rt.c] 37)).heap.size = w.heap.size + 1 + 1 + 1 from by simp] at this
    exact this
  rw [hw0] at hb0
  have HW0 := hide hw0
  have hsz0 := hsz.to' hb0
  have hso0 := hso.to' hb0
  have hst0 := hst.to' hb0
  have HID := hide (And.intro hez (And.intro heo het))
  have HSA := hide (And.intro hsz0 (And.intro hso0 hst0))
  have HG := hide (And.intro gZ (And.intro gO (And.intro gT gR)))
  have hzR := gR.lt
  clear hsz hso hst hw0 hez heo het hsz0 hso0 hst0
  obtain ⟨z0, z1⟩ := gZ.two
  obtain ⟨o0, o1⟩ := gO.two
  obtain ⟨t0, t1⟩ := gT.two
  obtain ⟨r0, r1, r2, r3⟩ := gR.all2
  clear gZ gO gT gR hmm
  unfold mrV
  go_enter Tryz.func35, Tryz.ntmps35
  go_wp2_with fail
  rw [HW0.out]
  refine (c_Proper rz z.items _ hnz HSA.out.1).mono ?_
  rintro e w1 ⟨rfl, hb1⟩
  clear z0 z1 o0 o1 t0 t1 r0 r1 r2 r3
  obtain ⟨z0, z1⟩ := (HG.out.1.below hb1 HG.out.1.lt).two
  obtain ⟨o0, o1⟩ := (HG.out.2.1.below hb1 HG.out.2.1.lt).two
  obtain ⟨t0, t1⟩ := (HG.out.2.2.1.below hb1 HG.out.2.2.1.lt).two
  obtain ⟨r0, r1, r2, r3⟩ := (HG.out.2.2.2.below hb1 HG.out.2.2.2.lt).all2
  have hzw1 := (HG.out.2.2.2.below hb1 HG.out.2.2.2.lt).lt
  cases hP : (inB rz.id 1 20 && itsOk z.items) with
  | false =>
    have HE := hide (show mergeB z o t = false by unfold mergeB; rw [← HID.out.1, hP]; rfl)
    go_wp2
    exact bodyPost_ret (v := .tuple #[.agg #[.int .i64 0, .slice none 0 0], .slice none 0 0, .int .i64 140]) (by simp [results, Tryz.results35, go_sem, r0, r1]) rfl ⟨((bthen hb0 hb1).setCell (by simp; omega) _).setCell (by simp; omega) _, .inl ⟨HE.out, rfl⟩⟩
  | true =>
    have HP1 := hide hP
    clear hP
    go_wp2_with fail
    refine (c_Proper ro o.items _ hno (HSA.out.2.1.to' hb1)).mono ?_
    rintro e w2 ⟨rfl, hb2⟩
    have hb12 := bthen hb1 hb2
    clear z0 z1 o0 o1 t0 t1 r0 r1 r2 r3
    obtain ⟨z0, z1⟩ := (HG.out.1.below hb12 HG.out.1.lt).two
    obtain ⟨o0, o1⟩ := (HG.out.2.1.below hb12 HG.out.2.1.lt).two
    obtain ⟨t0, t1⟩ := (HG.out.2.2.1.below hb12 HG.out.2.2.1.lt).two
    obtain ⟨r0, r1, r2, r3⟩ := (HG.out.2.2.2.below hb12 HG.out.2.2.2.lt).all2
    have hzw2 := (HG.out.2.2.2.below hb12 HG.out.2.2.2.lt).lt
    clear hb1 hb2
    cases hP : (inB ro.id 1 20 && itsOk o.items) with
    | false =>
      have HE := hide (show mergeB z o t = false by unfold mergeB; rw [← HID.out.2.1, hP]; simp)
      go_wp2
      exact bodyPost_ret (v := .tuple #[.agg #[.int .i64 0, .slice none 0 0], .slice none 0 0, .int .i64 140]) (by simp [results, Tryz.results35, go_sem, r0, r1]) rfl ⟨((bthen hb0 hb12).setCell (by simp; omega) _).setCell (by simp; omega) _, .inl ⟨HE.out, rfl⟩⟩
    | true =>
      have HP2 := hide hP
      clear hP
      go_wp2_with fail
      refine (c_Proper rt t.items _ hnt (HSA.out.2.2.to' hb12)).mono ?_
      rintro e w3 ⟨rfl, hb3⟩
      have hb13 := bthen hb12 hb3
      clear z0 z1 o0 o1 t0 t1 r0 r1 r2 r3
      obtain ⟨z0, z1⟩ := (HG.out.1.below hb13 HG.out.1.lt).two
      obtain ⟨o0, o1⟩ := (HG.out.2.1.below hb13 HG.out.2.1.lt).two
      obtain ⟨t0, t1⟩ := (HG.out.2.2.1.below hb13 HG.out.2.2.1.lt).two
      obtain ⟨r0, r1, r2, r3⟩ := (HG.out.2.2.2.below hb13 HG.out.2.2.2.lt).all2
      have hzw3 := (HG.out.2.2.2.below hb13 HG.out.2.2.2.lt).lt
      clear hb12 hb3
      cases hP : (inB rt.id 1 20 && itsOk t.items) with
      | false =>
        have HE := hide (show mergeB z o t = false by unfold mergeB; rw [← HID.out.2.2, hP]; simp)
        go_wp2
        exact bodyPost_ret (v := .tuple #[.agg #[.int .i64 0, .slice none 0 0], .slice none 0 0, .int .i64 140]) (by simp [results, Tryz.results35, go_sem, r0, r1]) rfl ⟨((bthen hb0 hb13).setCell (by simp; omega) _).setCell (by simp; omega) _, .inl ⟨HE.out, rfl⟩⟩
      | true =>
        have HP3 := hide hP
        clear hP
        by_cases he1 : ro.id = rz.id
        · have hd1 : (ro.id != rz.id) = false := by simp [he1]
          have HE1 := hide he1
          clear he1
          by_cases he2 : rt.id = rz.id
          · have hd2 : (rt.id != rz.id) = false := by simp [he2]
            have HE2 := hide he2
            clear he2
            have HB := hide (show mergeB z o t = true by
              unfold mergeB
              rw [← HID.out.1, ← HID.out.2.1, ← HID.out.2.2, HP1.out, HP2.out, HP3.out, HE1.out, HE2.out]; simp)
            have hb03 := bthen hb0 hb13
            have hs3 := HSA.out
            have hsz3 := hs3.1.to' hb13
            have hso3 := hs3.2.1.to' hb13
            have hst3 := hs3.2.2.to' hb13
            have HSB := hide (And.intro hsz3 (And.intro hso3 hst3))
            clear hs3 hsz3 hso3 hst3
            go_wp2_with fail
            have HS := hide (fun (W : World) (h : Below w3.heap.size w3 W) => (show (W.cell? ⟨w.heap.size, 1, none⟩ = some (.slice rz.a rz.n rz.c) ∧ W.cell? ⟨w.heap.size + 1, 1, none⟩ = some (.slice ro.a ro.n ro.c) ∧ W.cell? ⟨w.heap.size + 1 + 1, 1, none⟩ = some (.slice rt.a rt.n rt.c)) ∧ Below w3.heap.size w3 W from
              ⟨⟨(HG.out.1.below (bthen hb13 h) HG.out.1.lt).two.2, (HG.out.2.1.below (bthen hb13 h) HG.out.2.1.lt).two.2, (HG.out.2.2.1.below (bthen hb13 h) HG.out.2.2.1.lt).two.2⟩, h⟩))
            go_region_held3 (fun W => (W.cell? ⟨w.heap.size, 1, none⟩ = some (.slice rz.a rz.n rz.c) ∧ W.cell? ⟨w.heap.size + 1, 1, none⟩ = some (.slice ro.a ro.n ro.c) ∧ W.cell? ⟨w.heap.size + 1 + 1, 1, none⟩ = some (.slice rt.a rt.n rt.c)) ∧ Below w3.heap.size w3 W)
              (first | exact HS.out _ (by assumption) | exact HS.out _ (bdrew (Below.refl _ _)) | (go_split_ands; first | exact HS.out _ (by assumption) | exact HS.out _ (bthen (by assumption) (by assumption))))
              ((go_split_ands; go_at_call 65; first | ((with_reducible refine (c_byID rz.a rz.n rz.c z.items _ hnz (HSB.out.1.to' (by assumption))).mono ?_); rintro e w4 ⟨bz, rfl, hbbz, himz, hbz⟩) | ((with_reducible refine (c_byID ro.a ro.n ro.c o.items _ hno (HSB.out.2.1.to' (by assumption))).mono ?_); rintro e w5 ⟨bo, rfl, hbbo, himo, hbo⟩) | ((with_reducible refine (c_byID rt.a rt.n rt.c t.items _ hnt (HSB.out.2.2.to' (by assumption))).mono ?_); rintro e w6 ⟨bt, rfl, hbbt, himt, hbt⟩)))
            have hmm := @run_makeMap Tryz.prog
            have hb36 : Below w3.heap.size w3 w6 := bthen (bthen (bthen (bdrew (Below.refl _ _)) hbz) hbo) hbt
            have HZ6 := hide ((himz.below hbo himz.lt).below hbt (himz.below hbo himz.lt).lt)
            have HO6 := hide (himo.below hbt himo.lt)
            have HT6 := hide himt
            have hb06 := bthen hb03 hb36
            have HRd := hide (HG.out.1.below (bthen hb13 hb36) HG.out.1.lt)
            have HRr := hide (HG.out.2.2.2.below (bthen hb13 hb36) HG.out.2.2.2.lt)
            go_split_ands
            clear himz himo himt hbz hbo hbt hbbz hbbo hbbt z0 z1 o0 o1 t0 t1 r0 r1 r2 r3 hb36 HS HSB HSA HP1 HP2 HP3 HE1 HE2
            go_wp2_with fail
            clear hmm
            have him0 := IM.new w6
            have hA6 := balloc (Below.refl w6.heap.size w6) (.map #[] 0)
            generalize hlz : byL z.items = lz at *
            generalize hlo : byL o.items = lo at *
            generalize hlt : byL t.items = lt at *
            go_loopw [13, 55] (fun v i wr => ∃ n : Nat, n ≤ 100 ∧ i = .int .i64 n ∧ IM wr w6.heap.size ((mgM lz lo lt n).map kvI) ∧ wr.ownsRow w6.heap.size 3 1 v (mgG lz lo lt n).length ((mgG lz lo lt n).flatMap cN) ∧ Below w6.heap.size w6 wr) (fun _ i _ => 100 - (intOf i).toNat)
            case atStart => exact ⟨0, by omega, rfl, him0, World.ownsRow_nil _ _ _ _, hA6⟩
            case round =>
              obtain ⟨n, hn, rfl, him, hown, hb⟩ := hrel
              by_cases hlt100 : n < 100
              · have hji : (n : Int) < 100 := by omega
                have hMs : mgM lz lo lt (n + 1) = if (mgX (atI' lz n) (atI' lo n) (atI' lt n)).kind = 0 then mgM lz lo lt n else putI (mgX (atI' lz n) (atI' lo n) (atI' lt n)) (mgM lz lo lt n) := rfl
                have hGs : mgG lz lo lt (n + 1) = if mgC (atI' lz n) (atI' lo n) (atI' lt n) then mgG lz lo lt n ++ [(n : Int)] else mgG lz lo lt n := rfl
                have hXi : (mgX (atI' lz n) (atI' lo n) (atI' lt n)).kind ≠ 0 → (mgX (atI' lz n) (atI' lo n) (atI' lt n)).id = n := mgX_id
                have hGl := mgG_len lz lo lt n
                have hlkz : (((lz.map kvI).lookup (n : Int)).getD zV) = itV (atI' lz n) := look_get1 n lz
                have hlko : (((lo.map kvI).lookup (n : Int)).getD zV) = itV (atI' lo n) := look_get1 n lo
                have hlkt : (((lt.map kvI).lookup (n : Int)).getD zV) = itV (atI' lt n) := look_get1 n lt
                have HZ := hide (HZ6.out.below hb HZ6.out.lt)
                have HO := hide (HO6.out.below hb HO6.out.lt)
                have HT := hide (HT6.out.below hb HT6.out.lt)
                generalize atI' lz n = zi at *
                generalize atI' lo n = oi at *
                generalize atI' lt n = ti at *
                have HLz := hide hlkz
                have HLo := hide hlko
                have HLt := hide hlkt
                generalize mgM lz lo lt n = Mn at *
                generalize mgG lz lo lt n = Gn at *
                clear hlkz hlko hlkt him0 hA6
                by_cases htz : ti = zi
                · have q1 : ∀ w, (binOp .eql 27 (itV ti) (itV zi)).run Tryz.prog w = .ok (.bool true) w := fun w => by rw [eqlIt w ti zi]; simp [htz]
                  rw [show mgX zi oi ti = oi from if_pos htz] at hMs hXi
                  have HMs := hide hMs
                  have HGs := hide (show mgG lz lo lt (n + 1) = Gn by rw [hGs, show mgC zi oi ti = false by simp [mgC, htz]]; rfl)
                  simp only [itV] at q1
                  clear htz hMs hGs
                  by_cases hk : oi.kind = 0
                  · have hkd : (oi.kind != 0) = false := by simp [hk]
                    have HK := hide hk
                    clear hk hXi
                    go_wp2_with (first | (at_lookup; refine wpList_lookup_im rfl _ _ 104 false rfl 3 27 _ Tryz.underlying104 Tryz.underlying3 (zvItem _) rfl (HO.out.alloc _) n rfl (itV oi) HLo.out ?_) | (at_lookup; refine wpList_lookup_im rfl _ _ 104 false rfl 3 27 _ Tryz.underlying104 Tryz.underlying3 (zvItem _) rfl (HT.out.alloc _) n rfl (itV ti) HLt.out ?_) | (at_lookup; refine wpList_lookup_im rfl _ _ 104 false rfl 3 27 _ Tryz.underlying104 Tryz.underlying3 (zvItem _) rfl (HZ.out.alloc _) n rfl (itV zi) HLz.out ?_) | (at_lookup; refine wpList_lookup_im rfl _ _ 104 false rfl 3 27 _ Tryz.underlying104 Tryz.underlying3 (zvItem _) rfl (HO.out) n rfl (itV oi) HLo.out ?_))
                    go_roundw
                    case rel =>
                      exact ⟨n + 1, by omega, by go_num, by rw [HMs.out, if_pos HK.out]; exact (him.alloc _), by rw [HGs.out]; exact (hown.alloc _), (balloc hb _)⟩
                    case measure => simp [intOf]; omega
                  · have hkd : (oi.kind != 0) = true := by simpa using hk
                    have HXi := hide (hXi hk)
                    have HK := hide hk
                    clear hk hXi
                    go_wp2_with (first | (at_lookup; refine wpList_lookup_im rfl _ _ 104 false rfl 3 27 _ Tryz.underlying104 Tryz.underlying3 (zvItem _) rfl (HO.out.alloc _) n rfl (itV oi) HLo.out ?_) | (at_lookup; refine wpList_lookup_im rfl _ _ 104 false rfl 3 27 _ Tryz.underlying104 Tryz.underlying3 (zvItem _) rfl (HT.out.alloc _) n rfl (itV ti) HLt.out ?_) | (at_lookup; refine wpList_lookup_im rfl _ _ 104 false rfl 3 27 _ Tryz.underlying104 Tryz.underlying3 (zvItem _) rfl (HZ.out.alloc _) n rfl (itV zi) HLz.out ?_) | (at_lookup; refine wpList_lookup_im rfl _ _ 104 false rfl 3 27 _ Tryz.underlying104 Tryz.underlying3 (zvItem _) rfl (HO.out) n rfl (itV oi) HLo.out ?_) | (at_mapUpdate; refine wpList_mapUpdate_im rfl _ _ _ 104 (Or.inl rfl) 3 27 Tryz.underlying104 Tryz.underlying3 rfl (him.alloc _) n rfl (itV oi) rfl ?_; intro w8 him8 hg8 hs8))
                    go_roundw
                    case rel =>
                      exact ⟨n + 1, by omega, by go_num, by rw [HMs.out, if_neg HK.out, putI_kv, HXi.out]; exact him8, by rw [HGs.out]; exact ((hown.alloc _).kept hg8 (.inr (fun e => own_im hown him _ e rfl))), ((balloc hb _).grown hg8 (by have := hb.size; simp; omega) (fun g e => by cases e; exact Nat.le_refl _))⟩
                    case measure => simp [intOf]; omega
                · have q1 : ∀ w, (binOp .eql 27 (itV ti) (itV zi)).run Tryz.prog w = .ok (.bool false) w := fun w => by rw [eqlIt w ti zi]; simp [htz]
                  by_cases hoz : oi = zi
                  · have q2 : ∀ w, (binOp .eql 27 (itV oi) (itV zi)).run Tryz.prog w = .ok (.bool true) w := fun w => by rw [eqlIt w oi zi]; simp [hoz]
                    rw [show mgX zi oi ti = ti by unfold mgX; rw [if_neg htz, if_pos hoz]] at hMs hXi
                    have HMs := hide hMs
                    have HGs := hide (show mgG lz lo lt (n + 1) = Gn by rw [hGs, show mgC zi oi ti = false by simp [mgC, hoz]]; rfl)
                    simp only [itV] at q1 q2
                    clear htz hoz hMs hGs
                    by_cases hk : ti.kind = 0
                    · have hkd : (ti.kind != 0) = false := by simp [hk]
                      have HK := hide hk
                      clear hk hXi
                      go_wp2_with (first | (at_lookup; refine wpList_lookup_im rfl _ _ 104 false rfl 3 27 _ Tryz.underlying104 Tryz.underlying3 (zvItem _) rfl (HO.out.alloc _) n rfl (itV oi) HLo.out ?_) | (at_lookup; refine wpList_lookup_im rfl _ _ 104 false rfl 3 27 _ Tryz.underlying104 Tryz.underlying3 (zvItem _) rfl (HT.out.alloc _) n rfl (itV ti) HLt.out ?_) | (at_lookup; refine wpList_lookup_im rfl _ _ 104 false rfl 3 27 _ Tryz.underlying104 Tryz.underlying3 (zvItem _) rfl (HZ.out.alloc _) n rfl (itV zi) HLz.out ?_) | (at_lookup; refine wpList_lookup_im rfl _ _ 104 false rfl 3 27 _ Tryz.underlying104 Tryz.underlying3 (zvItem _) rfl (HO.out) n rfl (itV oi) HLo.out ?_))
                      go_roundw
                      case rel =>
                        exact ⟨n + 1, by omega, by go_num, by rw [HMs.out, if_pos HK.out]; exact (him.alloc _), by rw [HGs.out]; exact (hown.alloc _), (balloc hb _)⟩
                      case measure => simp [intOf]; omega
                    · have hkd : (ti.kind != 0) = true := by simpa using hk
                      have HXi := hide (hXi hk)
                      have HK := hide hk
                      clear hk hXi
                      go_wp2_with (first | (at_lookup; refine wpList_lookup_im rfl _ _ 104 false rfl 3 27 _ Tryz.underlying104 Tryz.underlying3 (zvItem _) rfl (HO.out.alloc _) n rfl (itV oi) HLo.out ?_) | (at_lookup; refine wpList_lookup_im rfl _ _ 104 false rfl 3 27 _ Tryz.underlying104 Tryz.underlying3 (zvItem _) rfl (HT.out.alloc _) n rfl (itV ti) HLt.out ?_) | (at_lookup; refine wpList_lookup_im rfl _ _ 104 false rfl 3 27 _ Tryz.underlying104 Tryz.underlying3 (zvItem _) rfl (HZ.out.alloc _) n rfl (itV zi) HLz.out ?_) | (at_lookup; refine wpList_lookup_im rfl _ _ 104 false rfl 3 27 _ Tryz.underlying104 Tryz.underlying3 (zvItem _) rfl (HO.out) n rfl (itV oi) HLo.out ?_) | (at_mapUpdate; refine wpList_mapUpdate_im rfl _ _ _ 104 (Or.inl rfl) 3 27 Tryz.underlying104 Tryz.underlying3 rfl (him.alloc _) n rfl (itV ti) rfl ?_; intro w8 him8 hg8 hs8))
                      go_roundw
                      case rel =>
                        exact ⟨n + 1, by omega, by go_num, by rw [HMs.out, if_neg HK.out, putI_kv, HXi.out]; exact him8, by rw [HGs.out]; exact ((hown.alloc _).kept hg8 (.inr (fun e => own_im hown him _ e rfl))), ((balloc hb _).grown hg8 (by have := hb.size; simp; omega) (fun g e => by cases e; exact Nat.le_refl _))⟩
                      case measure => simp [intOf]; omega
                  · have q2 : ∀ w, (binOp .eql 27 (itV oi) (itV zi)).run Tryz.prog w = .ok (.bool false) w := fun w => by rw [eqlIt w oi zi]; simp [hoz]
                    rw [show mgX zi oi ti = oi by unfold mgX; rw [if_neg htz, if_neg hoz]] at hMs hXi
                    have HMs := hide hMs
                    by_cases hot : oi = ti
                    · have q3 : ∀ w, (binOp .neq 27 (itV oi) (itV ti)).run Tryz.prog w = .ok (.bool false) w := fun w => by rw [neqIt w oi ti]; simp [hot]
                      have HGs := hide (show mgG lz lo lt (n + 1) = Gn by rw [hGs, show mgC zi oi ti = false by simp [mgC, hot]]; rfl)
                      simp only [itV] at q1 q2 q3
                      clear htz hoz hot hMs hGs
                      by_cases hk : oi.kind = 0
                      · have hkd : (oi.kind != 0) = false := by simp [hk]
                        have HK := hide hk
                        clear hk hXi
                        go_wp2_with (first | (at_lookup; refine wpList_lookup_im rfl _ _ 104 false rfl 3 27 _ Tryz.underlying104 Tryz.underlying3 (zvItem _) rfl (HO.out.alloc _) n rfl (itV oi) HLo.out ?_) | (at_lookup; refine wpList_lookup_im rfl _ _ 104 false rfl 3 27 _ Tryz.underlying104 Tryz.underlying3 (zvItem _) rfl (HT.out.alloc _) n rfl (itV ti) HLt.out ?_) | (at_lookup; refine wpList_lookup_im rfl _ _ 104 false rfl 3 27 _ Tryz.underlying104 Tryz.underlying3 (zvItem _) rfl (HZ.out.alloc _) n rfl (itV zi) HLz.out ?_) | (at_lookup; refine wpList_lookup_im rfl _ _ 104 false rfl 3 27 _ Tryz.underlying104 Tryz.underlying3 (zvItem _) rfl (HO.out) n rfl (itV oi) HLo.out ?_))
                        go_roundw
                        case rel =>
                          exact ⟨n + 1, by omega, by go_num, by rw [HMs.out, if_pos HK.out]; exact (him.alloc _), by rw [HGs.out]; exact (hown.alloc _), (balloc hb _)⟩
                        case measure => simp [intOf]; omega
                      · have hkd : (oi.kind != 0) = true := by simpa using hk
                        have HXi := hide (hXi hk)
                        have HK := hide hk
                        clear hk hXi
                        go_wp2_with (first | (at_lookup; refine wpList_lookup_im rfl _ _ 104 false rfl 3 27 _ Tryz.underlying104 Tryz.underlying3 (zvItem _) rfl (HO.out.alloc _) n rfl (itV oi) HLo.out ?_) | (at_lookup; refine wpList_lookup_im rfl _ _ 104 false rfl 3 27 _ Tryz.underlying104 Tryz.underlying3 (zvItem _) rfl (HT.out.alloc _) n rfl (itV ti) HLt.out ?_) | (at_lookup; refine wpList_lookup_im rfl _ _ 104 false rfl 3 27 _ Tryz.underlying104 Tryz.underlying3 (zvItem _) rfl (HZ.out.alloc _) n rfl (itV zi) HLz.out ?_) | (at_lookup; refine wpList_lookup_im rfl _ _ 104 false rfl 3 27 _ Tryz.underlying104 Tryz.underlying3 (zvItem _) rfl (HO.out) n rfl (itV oi) HLo.out ?_) | (at_mapUpdate; refine wpList_mapUpdate_im rfl _ _ _ 104 (Or.inl rfl) 3 27 Tryz.underlying104 Tryz.underlying3 rfl (him.alloc _) n rfl (itV oi) rfl ?_; intro w8 him8 hg8 hs8))
                        go_roundw
                        case rel =>
                          exact ⟨n + 1, by omega, by go_num, by rw [HMs.out, if_neg HK.out, putI_kv, HXi.out]; exact him8, by rw [HGs.out]; exact ((hown.alloc _).kept hg8 (.inr (fun e => own_im hown him _ e rfl))), ((balloc hb _).grown hg8 (by have := hb.size; simp; omega) (fun g e => by cases e; exact Nat.le_refl _))⟩
                        case measure => simp [intOf]; omega
                    · have q3 : ∀ w, (binOp .neq 27 (itV oi) (itV ti)).run Tryz.prog w = .ok (.bool true) w := fun w => by rw [neqIt w oi ti]; simp [hot]
                      have HGs := hide (show mgG lz lo lt (n + 1) = Gn ++ [(n : Int)] by rw [hGs, show mgC zi oi ti = true by simp [mgC, htz, hoz, hot]]; rfl)
                      simp only [itV] at q1 q2 q3
                      have gXb : Blk (wr.alloc (.cells #[.int .i64 oi.id, .int .i64 oi.kind, .int .i64 oi.x, .int .i64 oi.y, .string oi.text, .int .i64 oi.mod] 27)) wr.heap.size 27 (cI oi) := Blk.new wr 27 (cI oi)
                      have gA : SlR ((wr.alloc (.cells #[.int .i64 oi.id, .int .i64 oi.kind, .int .i64 oi.x, .int .i64 oi.y, .string oi.text, .int .i64 oi.mod] 27)).alloc (.cells (cN n).toArray 3)) _ 1 (some ⟨wr.heap.size + 1, 0, none⟩) 1 (cN n) := slr_new _ _ rfl (by simp)
                      clear htz hoz hot hMs hGs
                      by_cases hk : oi.kind = 0
                      · have hkd : (oi.kind != 0) = false := by simp [hk]
                        have HK := hide hk
                        clear hk hXi
                        go_wp2_with (first | (at_lookup; refine wpList_lookup_im rfl _ _ 104 false rfl 3 27 _ Tryz.underlying104 Tryz.underlying3 (zvItem _) rfl (HO.out.alloc _) n rfl (itV oi) HLo.out ?_) | (at_lookup; refine wpList_lookup_im rfl _ _ 104 false rfl 3 27 _ Tryz.underlying104 Tryz.underlying3 (zvItem _) rfl (HT.out.alloc _) n rfl (itV ti) HLt.out ?_) | (at_lookup; refine wpList_lookup_im rfl _ _ 104 false rfl 3 27 _ Tryz.underlying104 Tryz.underlying3 (zvItem _) rfl (HZ.out.alloc _) n rfl (itV zi) HLz.out ?_) | (at_lookup; refine wpList_lookup_im rfl _ _ 104 false rfl 3 27 _ Tryz.underlying104 Tryz.underlying3 (zvItem _) rfl (HO.out) n rfl (itV oi) HLo.out ?_) | (at_builtin; refine wpList_append_sl (size := 1) rfl _ _ 30 rfl w6.heap.size 3 i1 (.int .i64 0) 8 Tryz.underlying30 hi1 hy0 hy1 hy2 rfl (by decide) _ Gn.length (Gn.flatMap cN) rfl ((hown.alloc _).alloc _) 1 1 (cN n) rfl gA (Below.refl _ _) (fun u hu => oneN [(n : Int)] u (by simpa using hu)) (by unfold maxLen; omega) (by omega) (by have := hb.size; simp; omega) ?_; intro v7 w7 ho7 hg7 hor7; have gX7 := (gXb.alloc (.cells #[.int .i64 (n : Int)] 3)).grown hg7 (fun e => by have := (own_lt hown _ e).2; omega); obtain ⟨x0, x1, x2, x3, x4, x5⟩ := gX7.allI; have hx7 := gX7.lt; have him7 := ((him.alloc (.cells #[.int .i64 oi.id, .int .i64 oi.kind, .int .i64 oi.x, .int .i64 oi.y, .string oi.text, .int .i64 oi.mod] 27)).alloc (.cells #[.int .i64 (n : Int)] 3)).grown hg7 (fun e => own_im hown him _ e rfl)))
                        go_roundw
                        case rel =>
                          exact ⟨n + 1, by omega, by go_num, by rw [HMs.out, if_pos HK.out]; exact him7, by rw [HGs.out, List.length_append, flatN_snoc]; exact ho7, ((balloc (balloc hb _) _).grown hg7 (by have := hb.size; simp; omega) (fun g e => (own_lt hown g e).1))⟩
                        case measure => simp [intOf]; omega
                      · have hkd : (oi.kind != 0) = true := by simpa using hk
                        have HXi := hide (hXi hk)
                        have HK := hide hk
                        clear hk hXi
                        go_wp2_with (first | (at_lookup; refine wpList_lookup_im rfl _ _ 104 false rfl 3 27 _ Tryz.underlying104 Tryz.underlying3 (zvItem _) rfl (HO.out.alloc _) n rfl (itV oi) HLo.out ?_) | (at_lookup; refine wpList_lookup_im rfl _ _ 104 false rfl 3 27 _ Tryz.underlying104 Tryz.underlying3 (zvItem _) rfl (HT.out.alloc _) n rfl (itV ti) HLt.out ?_) | (at_lookup; refine wpList_lookup_im rfl _ _ 104 false rfl 3 27 _ Tryz.underlying104 Tryz.underlying3 (zvItem _) rfl (HZ.out.alloc _) n rfl (itV zi) HLz.out ?_) | (at_lookup; refine wpList_lookup_im rfl _ _ 104 false rfl 3 27 _ Tryz.underlying104 Tryz.underlying3 (zvItem _) rfl (HO.out) n rfl (itV oi) HLo.out ?_) | (at_builtin; refine wpList_append_sl (size := 1) rfl _ _ 30 rfl w6.heap.size 3 i1 (.int .i64 0) 8 Tryz.underlying30 hi1 hy0 hy1 hy2 rfl (by decide) _ Gn.length (Gn.flatMap cN) rfl ((hown.alloc _).alloc _) 1 1 (cN n) rfl gA (Below.refl _ _) (fun u hu => oneN [(n : Int)] u (by simpa using hu)) (by unfold maxLen; omega) (by omega) (by have := hb.size; simp; omega) ?_; intro v7 w7 ho7 hg7 hor7; have gX7 := (gXb.alloc (.cells #[.int .i64 (n : Int)] 3)).grown hg7 (fun e => by have := (own_lt hown _ e).2; omega); obtain ⟨x0, x1, x2, x3, x4, x5⟩ := gX7.allI; have hx7 := gX7.lt; have him7 := ((him.alloc (.cells #[.int .i64 oi.id, .int .i64 oi.kind, .int .i64 oi.x, .int .i64 oi.y, .string oi.text, .int .i64 oi.mod] 27)).alloc (.cells #[.int .i64 (n : Int)] 3)).grown hg7 (fun e => own_im hown him _ e rfl)) | (at_mapUpdate; refine wpList_mapUpdate_im rfl _ _ _ 104 (Or.inl rfl) 3 27 Tryz.underlying104 Tryz.underlying3 rfl (him7) n rfl (itV oi) rfl ?_; intro w8 him8 hg8 hs8))
                        go_roundw
                        case rel =>
                          exact ⟨n + 1, by omega, by go_num, by rw [HMs.out, if_neg HK.out, putI_kv, HXi.out]; exact him8, by rw [HGs.out, List.length_append, flatN_snoc]; exact (ho7.kept hg8 (.inr (fun e => own_im ho7 him7 _ e rfl))), (((balloc (balloc hb _) _).grown hg7 (by have := hb.size; simp; omega) (fun g e => (own_lt hown g e).1)).grown hg8 (by have := hb.size; omega) (fun g e => by cases e; exact Nat.le_refl _))⟩
                        case measure => simp [intOf]; omega
              · obtain rfl : n = 100 := by omega
                have hml := mgM_len lz lo lt 100
                have hl1 : (mgM lz lo lt 100).length ≤ 1000000 := by omega
                obtain ⟨wo, rfl⟩ : ∃ wo : World, wo = wr := ⟨_, rfl⟩
                have HIM := hide him
                have HOW := hide hown
                have hb0o := bthen hb06 hb
                have hbox : w.heap.size < w6.heap.size := (HRd.out).lt
                have hbox4 : w.heap.size + 1 + 1 + 1 < w6.heap.size := (HRr.out).lt
                have hso := hb.size
                have HS := hide (fun (W : World) (h : Below wo.heap.size wo W) => (show W.cell? ⟨w.heap.size, 0, none⟩ = some (.int .i64 rz.id) ∧ Below wo.heap.size wo W from ⟨((HRd.out.below hb HRd.out.lt).below h (by omega)).two.1, h⟩))
                clear him hown him0 hA6
                go_upto_region 18 with (fail)
                go_cut [16] (fun v wx => MgCut wo rz.id (mgM lz lo lt 100) v wx)
                case first =>
                  go_region_held3 (fun W => W.cell? ⟨w.heap.size, 0, none⟩ = some (.int .i64 rz.id) ∧ Below wo.heap.size wo W)
                    (first | exact HS.out _ (by assumption) | exact HS.out _ (bdrew (Below.refl _ _)) | exact HS.out _ h8 | exact HS.out _ (balloc h8 _) | exact HS.out _ (bset (bset h8 (Nat.le_refl _) _) (Nat.le_refl _) _) | (go_split_ands; first | exact HS.out _ (by assumption) | exact HS.out _ (bthen (by assumption) (by assumption)) | exact HS.out _ (balloc (by assumption) _) | exact HS.out _ (bdrew (balloc (Below.refl _ _) _)) | exact HS.out _ (balloc (bthen (by assumption) (by assumption)) _)))
                    ((go_split_ands; go_at_call 69; refine (c_sorted w6.heap.size (mgM lz lo lt 100) _ (HIM.out.below (by assumption) HIM.out.lt) hl1).mono ?_; rintro e w8 ⟨v, s, rfl, hsort, hrow, hb8⟩; obtain ⟨A', c', rfl, hc1, hc2, hsl⟩ := SlR.of_own hrow; have h8 : Below wo.heap.size wo w8 := bthen (by assumption) hb8; (try (obtain ⟨q0, q1, q2, q3⟩ := (((Blk.new wo 37 [.int .i64 0, .slice none 0 0]).drew).below hb8 (by simp)).all2; have q4 : wo.heap.size < w8.heap.size := (((Blk.new wo 37 [.int .i64 0, .slice none 0 0]).drew).below hb8 (by simp)).lt))))
                  · go_wp2_with fail
                    go_meet
                    exact ⟨w8.heap.size, s, A', _, c', rfl, hsort, hc1, by simpa [maxLen] using hc2, Blk.new w8 37 [.int .i64 rz.id, .slice A' (mgM lz lo lt 100).length c'], (own_base hrow (by simp)).alloc _, balloc h8 _, h8.size⟩
                  · go_wp2_with fail
                    go_meet
                    have gN := ((Blk.new wo 37 [.int .i64 0, .slice none 0 0]).drew).below hb8 (by simp)
                    exact ⟨wo.heap.size, s, A', _, c', rfl, hsort, hc1, by simpa [maxLen] using hc2, (gN.set 0 (.int .i64 rz.id)).set 1 (.slice A' (mgM lz lo lt 100).length c'), own_base (own_set (own_set hrow ⟨wo.heap.size, 0, none⟩ (by simp) (.int .i64 rz.id)) ⟨wo.heap.size, 1, none⟩ (by simp) (.slice A' (mgM lz lo lt 100).length c')) (by simp), bset (bset h8 (Nat.le_refl _) _) (Nat.le_refl _) _, Nat.le_refl _⟩
                case rest =>
                  obtain ⟨w9, rfl⟩ : ∃ w9 : World, w9 = wc := ⟨_, rfl⟩
                  obtain ⟨g, s, A, n, c, rfl, hsort, hc1, hc2, gM, hsl, hb9, hgo⟩ := hcut
                  obtain ⟨y0, y1⟩ := gM.two
                  have hgl := gM.lt
                  have hb69 := bthen hb hb9
                  obtain ⟨r0, r1, r2, r3⟩ := (HRr.out.below hb69 HRr.out.lt).all2
                  have hrl := (HRr.out.below hb69 HRr.out.lt).lt
                  have hb09 := bthen hb0o hb9
                  have HV := hide (own_bel HOW.out hb9)
                  have HSO := hide (show SortOf (mgM (byL z.items) (byL o.items) (byL t.items) 100) s by rw [hlz, hlo, hlt]; exact hsort)
                  have HGm := hide gM
                  clear gM hsort
                  go_wp2_with fail
                  refine (c_Proper ⟨rz.id, A, n, c⟩ s _ (by simp only []; omega) (own_row hsl).2.2).mono ?_
                  rintro e w10 ⟨rfl, hb10⟩
                  have hs10 := own_bel hsl hb10
                  have HV := hide (own_bel HV.out hb10)
                  have hbA := bthen hb09 hb10
                  have hb6A := bthen hb69 hb10
                  have gR := HRr.out.below hb6A HRr.out.lt
                  obtain ⟨r0, r1, r2, r3⟩ := gR.all2
                  have hrl := gR.lt
                  have HF := hide (And.intro hs10 gR)
                  have gM10 := HGm.out.below hb10 HGm.out.lt
                  clear hsl hs10 gR hb10 y0 y1
                  obtain ⟨y0, y1⟩ := gM10.two
                  have hgl10 := gM10.lt
                  have hgne : g ≠ w.heap.size + 1 + 1 + 1 := by omega
                  clear gM10
                  cases hP : (inB rz.id 1 20 && itsOk s) with
                  | false =>
                    have HP := hide hP
                    clear hP
                    go_wp2
                    exact bodyPost_ret (v := .tuple #[.agg #[.int .i64 0, .slice none 0 0], .slice none 0 0, .int .i64 140]) (by simp [results, Tryz.results35, go_sem, r0, r1]) rfl ⟨(hbA.setCell (by simp; omega) _).setCell (by simp; omega) _, .inr ⟨HB.out, s, HSO.out, .inl ⟨by rw [← HID.out.1]; exact HP.out, rfl⟩⟩⟩
                  | true =>
                    have HP := hide hP
                    clear hP
                    go_wp2_with fail
                    refine bodyPost_ret (v := .tuple #[.agg #[.int .i64 rz.id, .slice A n c], u13, .int .i64 0]) (by simp [results, Tryz.results35, go_sem, r0, r1]) rfl ?_
                    obtain ⟨hs10, gR⟩ := HF.out
                    refine ⟨(hbA.setCell (by simp; omega) _).setCell (by simp; omega) _, .inr ⟨HB.out, s, HSO.out, .inr ⟨by rw [← HID.out.1]; exact HP.out, A, n, c, u13, by rw [← HID.out.1], hc1, hc2, ?_, ?_⟩⟩⟩
                    · exact (own_row (own_set (own_set hs10 ⟨w.heap.size + 1 + 1 + 1, 0, none⟩ (by simp only []; omega) (.int .i64 rz.id)) ⟨w.heap.size + 1 + 1 + 1, 1, none⟩ (by simp only []; omega) (.slice A n c))).2.2
                    · rw [hlz, hlo, hlt]
                      exact own_base (own_set (own_set HV.out ⟨w.heap.size + 1 + 1 + 1, 0, none⟩ hbox4 (.int .i64 rz.id)) ⟨w.heap.size + 1 + 1 + 1, 1, none⟩ hbox4 (.slice A n c)) (by omega)
          · have hd2 : (rt.id != rz.id) = true := by simpa using he2
            have HE := hide (show mergeB z o t = false by unfold mergeB; rw [← HID.out.1, ← HID.out.2.2]; simp [he2])
            go_wp2
            exact bodyPost_ret (v := .tuple #[.agg #[.int .i64 0, .slice none 0 0], .slice none 0 0, .int .i64 140]) (by simp [results, Tryz.results35, go_sem, r0, r1]) rfl ⟨((bthen hb0 hb13).setCell (by simp; omega) _).setCell (by simp; omega) _, .inl ⟨HE.out, rfl⟩⟩
        · have hd1 : (ro.id != rz.id) = true := by simpa using he1
          have HE := hide (show mergeB z o t = false by unfold mergeB; rw [← HID.out.1, ← HID.out.2.1]; simp [he1])
          go_wp2
          exact bodyPost_ret (v := .tuple #[.agg #[.int .i64 0, .slice none 0 0], .slice none 0 0, .int .i64 140]) (by simp [results, Tryz.results35, go_sem, r0, r1]) rfl ⟨((bthen hb0 hb13).setCell (by simp; omega) _).setCell (by simp; omega) _, .inl ⟨HE.out, rfl⟩⟩
end Go.Proofs.YtncdombfhcfobaaGreat
