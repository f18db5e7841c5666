/- Contract of spread: the advances that follow from that of one person. -/
import Derived.Test.YtenhghkiapkejaaSpreadP
import Derived.Test.YtenhghkiapkejaaRg
import Derived.Deep.RegionHeld3
import Derived.BigRegion
namespace Go.Proofs.Ytenhghkiapkejaa
open Go.RowKit
def Z40 : List Int := List.replicate 40 0
def F40 : List Bool := List.replicate 40 false
def Ia (os : List Int) : List Value := os.map (Value.int .i64)
def Ba (ks : List Bool) : List Value := ks.map Value.bool
theorem mk66 (w : World) : (Instr.makeSlice 66 (.int .i64 40) (.int .i64 40)).run Try.prog w = .ok (.slice (some ⟨w.heap.size, 0, none⟩) 40 40) (w.alloc (.cells (Ia Z40).toArray 3)) := by kernel_rfl
theorem mk67 (w : World) : (Instr.makeSlice 67 (.int .i64 40) (.int .i64 40)).run Try.prog w = .ok (.slice (some ⟨w.heap.size, 0, none⟩) 40 40) (w.alloc (.cells (Ba F40).toArray 4)) := by kernel_rfl
theorem blkI {W : World} {g : Nat} {os : List Int} (h : Blk W g 3 (Ia os)) (hl : os.length = 40) {q : Int} (hq : inP q) : W.cell? ⟨g, q.toNat, none⟩ = some (.int .i64 (vl os q)) := by
  rw [h.cell]
  unfold Ia vl inP at *
  rw [List.getElem?_map, List.getD_eq_getElem?_getD, List.getElem?_eq_getElem (by omega)]
  rfl
theorem blkB {W : World} {g : Nat} {ks : List Bool} (h : Blk W g 4 (Ba ks)) (hl : ks.length = 40) {q : Int} (hq : inP q) : W.cell? ⟨g, q.toNat, none⟩ = some (.bool (kn ks q)) := by
  rw [h.cell]
  unfold Ba kn inP at *
  rw [List.getElem?_map, List.getD_eq_getElem?_getD, List.getElem?_eq_getElem (by omega)]
  rfl
theorem SI.bnd {l : List I4} {p adv : Int} {os : List Int} {ks : List Bool} (h60 : l.length ≤ 60) (ha : -1000000 ≤ adv ∧ adv ≤ 1000000) (h : SI l p adv os ks) {q : Int} (hq : inP q) (hk : kn ks q = true) : -61000000 ≤ vl os q ∧ vl os q ≤ 61000000 := by
  have h1 := h.2.2.2.2 q hq hk
  have h2 := cnt_le l ks
  omega
/-- a new advance, and that it is known -/
def spW (wr : World) (g a : Nat) (v : Int) (cs : List Value) : World := (((wr.setCell ⟨g, a, none⟩ (.int .i64 v)).setCell ⟨g + 1, a, none⟩ (.bool true)).alloc (.cells cs.toArray 43)).drew
theorem spW_facts {w wr : World} {os : List Int} {ks : List Bool} (hb1 : Blk wr w.heap.size 3 (Ia os)) (hb2 : Blk wr (w.heap.size + 1) 4 (Ba ks)) (hbw : Below w.heap.size w wr) (a : Nat) (v : Int) (cs : List Value) :
    Blk (spW wr w.heap.size a v cs) w.heap.size 3 (Ia (os.set a v)) ∧ Blk (spW wr w.heap.size a v cs) (w.heap.size + 1) 4 (Ba (ks.set a true)) ∧ Blk (spW wr w.heap.size a v cs) wr.heap.size 43 cs ∧ Below w.heap.size w (spW wr w.heap.size a v cs) ∧ wr.heap.size < (spW wr w.heap.size a v cs).heap.size := by
  have k1 := hb1.set a (.int .i64 v)
  have k2 : Blk (wr.setCell ⟨w.heap.size, a, none⟩ (.int .i64 v)) (w.heap.size + 1) 4 (Ba ks) := hb2.other (p := ⟨w.heap.size, a, none⟩) (by simp) _
  have k3 : Blk ((wr.setCell ⟨w.heap.size, a, none⟩ (.int .i64 v)).setCell ⟨w.heap.size + 1, a, none⟩ (.bool true)) w.heap.size 3 ((Ia os).set a (.int .i64 v)) := k1.other (p := ⟨w.heap.size + 1, a, none⟩) (by simp) _
  have k4 := k2.set a (.bool true)
  have b1 := bset hbw (p := ⟨w.heap.size, a, none⟩) (Nat.le_refl _) (.int .i64 v)
  have b2 := bset b1 (p := ⟨w.heap.size + 1, a, none⟩) (Nat.le_succ _) (.bool true)
  have e1 : (Ia os).set a (.int .i64 v) = Ia (os.set a v) := by unfold Ia; rw [List.map_set]
  have e2 : (Ba ks).set a (.bool true) = Ba (ks.set a true) := by unfold Ba; rw [List.map_set]
  rw [e1] at k3
  rw [e2] at k4
  have k5 := Blk.new ((wr.setCell ⟨w.heap.size, a, none⟩ (.int .i64 v)).setCell ⟨w.heap.size + 1, a, none⟩ (.bool true)) 43 cs
  have hsz : ((wr.setCell ⟨w.heap.size, a, none⟩ (.int .i64 v)).setCell ⟨w.heap.size + 1, a, none⟩ (.bool true)).heap.size = wr.heap.size := by simp
  rw [hsz] at k5
  have k6 := k5.lt
  exact ⟨(k3.alloc _).drew, (k4.alloc _).drew, k5.drew, bdrew (balloc b2 _), k6⟩
def SpreadPost (l : List I4) (p adv : Int) (w : World) (e : Ending) (w' : World) : Prop :=
  ∃ os ks b, e = .returned (.tuple #[.slice (some ⟨w.heap.size, 0, none⟩) 40 40, .slice (some ⟨w.heap.size + 1, 0, none⟩) 40 40, .bool b]) ∧ (b = true ∧ SpreadOk l p adv os ks ∨ b = false ∧ FromBad l p) ∧
    Blk w' w.heap.size 3 (Ia os) ∧ Blk w' (w.heap.size + 1) 4 (Ba ks) ∧ Below w.heap.size w w'
set_option maxRecDepth 100000 in
set_option maxHeartbeats 1000000 in
theorem f34 (A B : Option Addr) (l : List I4) (n c d : Nat) (p adv : Int) (w : World) (hl : plOk l) (h60 : l.length ≤ 60) (hp : inP p) (ha : -1000000 ≤ adv ∧ adv ≤ 1000000)
    (hs : SlR w w.heap.size 4 B l.length (l.flatMap c4)) :
    Calls Try.prog 34 #[.slice A n c, .slice B l.length d, .int .i64 p, .int .i64 adv] w (SpreadPost l p adv w) := by
  have hmk1 := mk66
  have hmk2 := mk67
  obtain ⟨hp1, hp2⟩ := hp
  go_enter Try.func34, Try.ntmps34
  have H0 := SI.start l p adv ⟨hp1, hp2⟩
  have hpn : p.toNat < 40 := by omega
  have zi : (Ia Z40)[p.toNat]? = some (.int .i64 0) := by unfold Ia Z40; rw [List.getElem?_map, List.getElem?_replicate, if_pos hpn]; rfl
  have zb : (Ba F40)[p.toNat]? = some (.bool false) := by unfold Ba F40; rw [List.getElem?_map, List.getElem?_replicate, if_pos hpn]; rfl
  go_wp2_with fail
  go_loopw [13] (fun i wr => ∃ (t : Nat) (os : List Int) (ks : List Bool), t ≤ l.length + 1 ∧ i = .int .i64 t ∧ SI l p adv os ks ∧ Rd l t os ks ∧ Blk wr w.heap.size 3 (Ia os) ∧ Blk wr (w.heap.size + 1) 4 (Ba ks) ∧ Below w.heap.size w wr) (fun i _ => l.length + 1 - (intOf i).toNat)
  case atStart =>
    refine ⟨0, Z40.set p.toNat adv, F40.set p.toNat true, by omega, rfl, H0, ⟨.inr (Nat.zero_le _), fun h => absurd h (by omega)⟩, ?_, ?_, balloc (balloc (Below.refl _ _) _) _⟩
    · have e : (Ia Z40).set p.toNat (.int .i64 adv) = Ia (Z40.set p.toNat adv) := by unfold Ia; rw [List.map_set]
      rw [e]
      exact (Blk.new w 3 _).alloc _
    · have e : (Ba F40).set p.toNat (.bool true) = Ba (F40.set p.toNat true) := by unfold Ba; rw [List.map_set]
      rw [e]
      have h := Blk.new (w.alloc (.cells (Ia (Z40.set p.toNat adv)).toArray 3)) 4 (Ba (F40.set p.toNat true))
      simpa [Ia, List.map_set] using h
  case round =>
    rename_i wr1
    obtain ⟨t, os0, ks0, ht, rfl, hS0, hR, hb1, hb2, hbw⟩ := hrel
    clear H0
    by_cases hlt : t ≤ l.length
    · have hti : (t : Int) ≤ (l.length : Int) := by omega
      go_wp2_with fail
      go_loopw [14] (fun i wr => ∃ (j : Nat) (os : List Int) (ks : List Bool), j ≤ l.length ∧ i = .int .i64 j ∧ SI l p adv os ks ∧ Tn l os0 ks0 j os ks ∧ Blk wr w.heap.size 3 (Ia os) ∧ Blk wr (w.heap.size + 1) 4 (Ba ks) ∧ Below w.heap.size w wr) (fun i _ => l.length - (intOf i).toNat)
      case atStart => exact ⟨0, os0, ks0, Nat.zero_le _, rfl, hS0, .inl ⟨rfl, rfl, by simp⟩, hb1, hb2, hbw⟩
      case round =>
        clear hb1 hb2 hbw
        obtain ⟨j, os, ks, hj, rfl, hS, hT, hb1, hb2, hbw⟩ := hrel
        by_cases hlt2 : j < l.length
        · obtain ⟨b, off, rfl, hbb, x0, x1, x2, x3⟩ := hs.at4 hbw hlt2
          obtain ⟨⟨g1, g2, g3, g4⟩, hA, hB⟩ := hl l[j] (List.getElem_mem hlt2)
          have y1 := blkB hb2 hS.2.1 hA
          have y2 := blkB hb2 hS.2.1 hB
          have z1 := blkI hb1 hS.1 hA
          have z2 := blkI hb1 hS.1 hB
          have hji : (j : Int) < (l.length : Int) := by omega
          have hj0 : (0 : Int) ≤ (j : Int) := by omega
          have hl1 := hb1.lt
          have hl2 := hb2.lt
          have hbl : b < wr.heap.size := Nat.lt_of_lt_of_le hbb hbw.size
          have f1 := hb1.free l[j].1.toNat
          have f2 := hb1.free l[j].2.2.1.toNat
          have f3 := hb2.free l[j].1.toNat
          have f4 := hb2.free l[j].2.2.1.toNat
          have bA := fun h => SI.bnd h60 ha hS hA h
          have bB := fun h => SI.bnd h60 ha hS hB h
          have HB := hide (And.intro hb1 (And.intro hb2 (And.intro hS (And.intro hT hbw))))
          obtain ⟨hA1, hA2⟩ := hA
          obtain ⟨hB1, hB2⟩ := hB
          have HM := hide (List.getElem_mem hlt2)
          clear hb1 hb2 hS hT
          cases hk1 : kn ks l[j].1
          all_goals
            cases hk2 : kn ks l[j].2.2.1
          · clear bA bB
            go_wp2_with fail
            go_quiet (fail)
            go_wp2_with fail
            go_roundw
            case rel =>
              obtain ⟨hb1, hb2, hS, hT, hbw⟩ := HB.out
              exact ⟨j + 1, os, ks, by omega, by go_num, hS, hT.stay hlt2 ⟨by rw [hk1, hk2], fun h => by rw [hk1] at h; cases h⟩, (hb1.alloc _).drewN _, (hb2.alloc _).drewN _, below_drewN (balloc hbw _) _⟩
            case measure => simp [intOf]; omega
          · obtain ⟨bB1, bB2⟩ := bB hk2
            clear bA bB
            have hne : l[j].1.toNat ≠ l[j].2.2.1.toNat := fun e => by unfold kn at hk1 hk2; rw [e, hk2] at hk1; cases hk1
            have hne' : l[j].2.2.1.toNat ≠ l[j].1.toNat := fun e => hne e.symm
            go_wp2_with fail
            go_region
            go_wp2_with fail
            obtain ⟨hb1, hb2, hS, hT, hbw⟩ := HB.out
            change Code.wp _ _ _ _ (spW wr w.heap.size l[j].1.toNat (vl os l[j].2.2.1 + (l[j].2.1 - l[j].2.2.2)) (c4 l[j]))
            obtain ⟨s1, s2, s3, s4, s5⟩ := spW_facts hb1 hb2 hbw l[j].1.toNat (vl os l[j].2.2.1 + (l[j].2.1 - l[j].2.2.2)) (c4 l[j])
            generalize spW wr w.heap.size l[j].1.toNat (vl os l[j].2.2.1 + (l[j].2.1 - l[j].2.2.2)) (c4 l[j]) = W2 at *
            clear x0 x1 x2 x3 y1 y2 z1 z2 f1 f2 f3 f4
            have hq : inP l[j].1 := ⟨by assumption, by assumption⟩
            have ho : inP l[j].2.2.1 := ⟨by assumption, by assumption⟩
            have hqo : l[j].2.2.1 ≠ l[j].1 := fun e => by rw [e] at hne; exact hne rfl
            obtain ⟨x0, x1, x2, x3⟩ := s3.all4
            have y1 : W2.cell? ⟨w.heap.size + 1, l[j].1.toNat, none⟩ = some (.bool true) := by have := blkB s2 (by simp [hS.2.1]) hq; rw [kn_set hS.2.1 hq hq, if_pos rfl] at this; exact this
            have y2 : W2.cell? ⟨w.heap.size + 1, l[j].2.2.1.toNat, none⟩ = some (.bool true) := by have := blkB s2 (by simp [hS.2.1]) ho; rw [kn_set hS.2.1 hq ho, if_neg hqo, hk2] at this; exact this
            have z1 : W2.cell? ⟨w.heap.size, l[j].1.toNat, none⟩ = some (.int .i64 (vl os l[j].2.2.1 + (l[j].2.1 - l[j].2.2.2))) := by have := blkI s1 (by simp [hS.1]) hq; rw [vl_set hS.1 _ hq hq, if_pos rfl] at this; exact this
            have z2 : W2.cell? ⟨w.heap.size, l[j].2.2.1.toNat, none⟩ = some (.int .i64 (vl os l[j].2.2.1)) := by have := blkI s1 (by simp [hS.1]) ho; rw [vl_set hS.1 _ hq ho, if_neg hqo] at this; exact this
            have HA := hide (SI.add hl hS ⟨hp1, hp2⟩ hq hk1 HM.out (v := (vl os l[j].2.2.1 + (l[j].2.1 - l[j].2.2.2))) (.inl ⟨rfl, hk2, rfl⟩))
            have HT2 := hide hT
            have HS2 := hide (And.intro s1 (And.intro s2 s4))
            clear s1 s2 s4 hS hT hb1 hb2 s3
            have hdf : (vl os l[j].2.2.1 + (l[j].2.1 - l[j].2.2.2) - vl os l[j].2.2.1 != l[j].2.1 - l[j].2.2.2) = false := by simp; omega
            go_quiet (fail)
            go_wp2_with fail
            go_roundw
            case rel =>
              obtain ⟨s1, s2, s4⟩ := HS2.out
              obtain ⟨a1, a2, a3⟩ := HA.out
              exact ⟨j + 1, _, _, by omega, by go_num, a1, HT2.out.add a2 a3, s1.drewN _, s2.drewN _, below_drewN s4 _⟩
            case measure => simp [intOf]; omega
          · obtain ⟨bA1, bA2⟩ := bA hk1
            clear bA bB
            have hne : l[j].1.toNat ≠ l[j].2.2.1.toNat := fun e => by unfold kn at hk1 hk2; rw [e, hk2] at hk1; cases hk1
            have hne' : l[j].2.2.1.toNat ≠ l[j].1.toNat := fun e => hne e.symm
            go_wp2_with fail
            go_region
            go_wp2_with fail
            obtain ⟨hb1, hb2, hS, hT, hbw⟩ := HB.out
            change Code.wp _ _ _ _ (spW wr w.heap.size l[j].2.2.1.toNat (vl os l[j].1 - (l[j].2.1 - l[j].2.2.2)) (c4 l[j]))
            obtain ⟨s1, s2, s3, s4, s5⟩ := spW_facts hb1 hb2 hbw l[j].2.2.1.toNat (vl os l[j].1 - (l[j].2.1 - l[j].2.2.2)) (c4 l[j])
            generalize spW wr w.heap.size l[j].2.2.1.toNat (vl os l[j].1 - (l[j].2.1 - l[j].2.2.2)) (c4 l[j]) = W2 at *
            clear x0 x1 x2 x3 y1 y2 z1 z2 f1 f2 f3 f4
            have hq : inP l[j].2.2.1 := ⟨by assumption, by assumption⟩
            have ho : inP l[j].1 := ⟨by assumption, by assumption⟩
            have hqo : l[j].1 ≠ l[j].2.2.1 := fun e => by rw [e] at hne; exact hne rfl
            obtain ⟨x0, x1, x2, x3⟩ := s3.all4
            have y1 : W2.cell? ⟨w.heap.size + 1, l[j].2.2.1.toNat, none⟩ = some (.bool true) := by have := blkB s2 (by simp [hS.2.1]) hq; rw [kn_set hS.2.1 hq hq, if_pos rfl] at this; exact this
            have y2 : W2.cell? ⟨w.heap.size + 1, l[j].1.toNat, none⟩ = some (.bool true) := by have := blkB s2 (by simp [hS.2.1]) ho; rw [kn_set hS.2.1 hq ho, if_neg hqo, hk1] at this; exact this
            have z1 : W2.cell? ⟨w.heap.size, l[j].2.2.1.toNat, none⟩ = some (.int .i64 (vl os l[j].1 - (l[j].2.1 - l[j].2.2.2))) := by have := blkI s1 (by simp [hS.1]) hq; rw [vl_set hS.1 _ hq hq, if_pos rfl] at this; exact this
            have z2 : W2.cell? ⟨w.heap.size, l[j].1.toNat, none⟩ = some (.int .i64 (vl os l[j].1)) := by have := blkI s1 (by simp [hS.1]) ho; rw [vl_set hS.1 _ hq ho, if_neg hqo] at this; exact this
            have HA := hide (SI.add hl hS ⟨hp1, hp2⟩ hq hk2 HM.out (v := (vl os l[j].1 - (l[j].2.1 - l[j].2.2.2))) (.inr ⟨rfl, hk1, rfl⟩))
            have HT2 := hide hT
            have HS2 := hide (And.intro s1 (And.intro s2 s4))
            clear s1 s2 s4 hS hT hb1 hb2 s3
            have hdf : (vl os l[j].1 - (vl os l[j].1 - (l[j].2.1 - l[j].2.2.2)) != l[j].2.1 - l[j].2.2.2) = false := by simp; omega
            go_quiet (fail)
            go_wp2_with fail
            go_roundw
            case rel =>
              obtain ⟨s1, s2, s4⟩ := HS2.out
              obtain ⟨a1, a2, a3⟩ := HA.out
              exact ⟨j + 1, _, _, by omega, by go_num, a1, HT2.out.add a2 a3, s1.drewN _, s2.drewN _, below_drewN s4 _⟩
            case measure => simp [intOf]; omega
          · obtain ⟨bA1, bA2⟩ := bA hk1
            obtain ⟨bB1, bB2⟩ := bB hk2
            clear bA bB
            cases hq : (vl os l[j].1 - vl os l[j].2.2.1 != l[j].2.1 - l[j].2.2.2)
            · have HQ := hide hq
              go_wp2_with fail
              go_quiet (fail)
              go_wp2_with fail
              go_roundw
              case rel =>
                obtain ⟨hb1, hb2, hS, hT, hbw⟩ := HB.out
                exact ⟨j + 1, os, ks, by omega, by go_num, hS, hT.stay hlt2 ⟨by rw [hk1, hk2], fun _ => by have := HQ.out; simpa using this⟩, (hb1.alloc _).drewN _, (hb2.alloc _).drewN _, below_drewN (balloc hbw _) _⟩
              case measure => simp [intOf]; omega
            · have HQ := hide hq
              go_wp2_with fail
              go_quiet (fail)
              go_wp2_with fail
              obtain ⟨hb1, hb2, hS, hT, hbw⟩ := HB.out
              go_ret3
              exact ⟨os, ks, false, rfl, .inr ⟨rfl, FromBad.of hl hS HM.out hk1 hk2 (by have := HQ.out; simpa using this)⟩, (hb1.alloc _).drewN _, (hb2.alloc _).drewN _, below_drewN (balloc hbw _) _⟩
        · have hjl : j = l.length := by omega
          have HT := hide (hjl ▸ hT)
          have HB := hide (And.intro hb1 (And.intro hb2 (And.intro hS hbw)))
          clear hjl hb1 hb2 hS hT
          go_wp2_with fail
          go_roundw
          case rel =>
            obtain ⟨hb1, hb2, hS, hbw⟩ := HB.out
            exact ⟨t + 1, os, ks, by omega, by go_num, hS, Tn.done hR HT.out, hb1, hb2, hbw⟩
          case measure => simp [intOf]; omega
    · have HF := hide (SI.done h60 hS0 (hR.2 (by omega)))
      have HB := hide (And.intro hb1 (And.intro hb2 hbw))
      clear hb1 hb2 hbw hS0 hR
      go_wp2_with fail
      obtain ⟨hb1, hb2, hbw⟩ := HB.out
      go_ret3
      exact ⟨os0, ks0, true, rfl, .inl ⟨rfl, HF.out⟩, hb1, hb2, hbw⟩
end Go.Proofs.Ytenhghkiapkejaa
