/- Contract of the reference's Joined. -/
import Derived.Test.YtenhghkiapkejaaJoinP
import Derived.Laws.MakeOwn
import Derived.BigRegion
import Derived.Deep.RegionHeld3
namespace Go.Proofs.Ytenhghkiapkejaa
open Go.RowKit
theorem Try.info3' : (Try.prog.info? 3).map (fun i => (i.zero, i.size, i.bytes)) = some (some (.int .i64 0), 1, 8) := by kernel_rfl
set_option maxRecDepth 100000 in
theorem mkI (n : Nat) (hn : n ≤ 100) (w : World) : (Instr.makeSlice 66 (.int .i64 (n : Int)) (.int .i64 (n : Int))).run Try.prog w = .ok (.slice (some ⟨w.heap.size, 0, none⟩) n n) (w.alloc (.cells (Ia (List.replicate n 0)).toArray 3)) := by
  obtain ⟨i0, hi, hz0, hz1, hz2⟩ := info_parts Try.info3'
  have h := run_make (P := Try.prog) w 66 3 i0 (.int .i64 0) Try.underlying66 hi hz0 .i64 .i64 n n (by omega) (Int.le_refl _) (by rw [hz2]; omega) (by omega)
  rw [h]
  simp only [Int.toNat_natCast, hz1, Nat.mul_one]
  congr 3
  unfold madeCells Ia
  apply Array.ext'
  apply List.ext_getElem
  · simp
  · intro i h1 h2
    simp [Value.cells, Nat.mod_one]
theorem blkA {W : World} {g n : Nat} {xs : List Int} (h : Blk W g 3 (Ia xs)) (hl : xs.length = n) {k : Nat} (hk : k < n) : W.cell? ⟨g, k, none⟩ = some (.int .i64 (gi xs k)) := by
  rw [h.cell]
  unfold Ia gi
  rw [List.getElem?_map, List.getD_eq_getElem?_getD, List.getElem?_eq_getElem (by omega)]
  rfl
theorem blkSet {W : World} {g : Nat} {xs : List Int} (h : Blk W g 3 (Ia xs)) (k : Nat) (v : Int) : Blk (W.setCell ⟨g, k, none⟩ (.int .i64 v)) g 3 (Ia (xs.set k v)) := by
  have := h.set k (.int .i64 v)
  have e : (Ia xs).set k (.int .i64 v) = Ia (xs.set k v) := by unfold Ia; rw [List.map_set]
  rw [e] at this
  exact this
def JoinPost (L : List I3) (l : List I4) (w : World) (e : Ending) (w' : World) : Prop :=
  Below w.heap.size w w' ∧ ((∃ fs ms, e = .returned (.tuple #[.slice (some ⟨w.heap.size, 0, none⟩) L.length L.length, .slice (some ⟨w.heap.size + 1, 0, none⟩) L.length L.length, .bool true]) ∧ JI L l fs ms 6561000000 ∧ Blk w' w.heap.size 3 (Ia fs) ∧ Blk w' (w.heap.size + 1) 3 (Ia ms)) ∨
    (e = .returned (.tuple #[.slice none 0 0, .slice none 0 0, .bool false]) ∧ ∃ s ∈ L, FromBad l s.1))
set_option maxRecDepth 100000 in
set_option maxHeartbeats 2000000 in
theorem f52 (A B : Option Addr) (L : List I3) (l : List I4) (c d : Nat) (w : World) (hn : L.length ≤ c) (hc : c ≤ 9223372036854775807) (hpr : proper L l = true) (h8 : l.length ≤ 8) (hL : L.length ≤ 100)
    (hr : SlR w w.heap.size 3 A L.length (L.flatMap c3)) (hs : SlR w w.heap.size 4 B l.length (l.flatMap c4)) :
    Calls Try.prog 52 #[.slice A L.length c, .slice B l.length d] w (JoinPost L l w) := by
  have hmk := mkI L.length hL
  have HP := hide hpr
  clear hpr
  go_enter Try.func52, Try.ntmps52
  go_wp2_with fail
  go_loopw [10] (fun i wr => ∃ (k : Nat) (fs : List Int), k ≤ L.length ∧ i = .int .i64 k ∧ fs.length = L.length ∧ (∀ a, a < k → gi fs a = a) ∧ Blk wr w.heap.size 3 (Ia fs) ∧ Blk wr (w.heap.size + 1) 3 (Ia (List.replicate L.length 0)) ∧ Below w.heap.size w wr) (fun i _ => L.length - (intOf i).toNat)
  case atStart =>
    refine ⟨0, List.replicate L.length 0, by omega, rfl, by simp, fun a h => absurd h (by omega), (Blk.new w 3 (Ia (List.replicate L.length 0))).alloc _, ?_, balloc (balloc (Below.refl _ _) _) _⟩
    have h := Blk.new (w.alloc (.cells (Ia (List.replicate L.length 0)).toArray 3)) 3 (Ia (List.replicate L.length 0))
    simpa using h
  case round =>
    obtain ⟨k, fs, hk, rfl, hfl, hfk, hb1, hb2, hbw⟩ := hrel
    by_cases hlt : k < L.length
    · have hki : (k : Int) < (L.length : Int) := by omega
      have hk0 : (0 : Int) ≤ (k : Int) := by omega
      have x0 := blkA hb1 hfl hlt
      have x1 := hb1.free k
      have hg1 := hb1.lt
      have HB := hide (And.intro hb1 (And.intro hb2 (And.intro hfk hfl)))
      clear hb1 hb2 hfk hfl
      go_wp2_with fail
      go_roundw
      case rel =>
        obtain ⟨hb1, hb2, hfk, hfl⟩ := HB.out
        refine ⟨k + 1, fs.set k k, by omega, by go_num, by simp [hfl], fun a ha => ?_, blkSet hb1 k k, hb2.other (p := ⟨w.heap.size, k, none⟩) (by simp) _, bset hbw (by simp) _⟩
        rw [gi_set (by omega)]
        split
        · omega
        · exact hfk a (by omega)
      case measure => simp [intOf]; omega
    · have hkl : k = L.length := by omega
      have HJ := hide (JI.start L hfl (by simp : (List.replicate L.length (0 : Int)).length = L.length) (fun a ha => hfk a (by omega)) (fun a => by unfold gi; rw [List.getD_eq_getElem?_getD, List.getElem?_replicate]; split <;> rfl))
      clear hfk hfl hkl
      go_wp2_with fail
      go_loopw [11] (fun i wr => ∃ (j : Nat) (fs ms : List Int), j ≤ l.length ∧ i = .int .i64 j ∧ JI L (l.take j) fs ms (bdN j) ∧ Blk wr w.heap.size 3 (Ia fs) ∧ Blk wr (w.heap.size + 1) 3 (Ia ms) ∧ Below w.heap.size w wr) (fun i _ => l.length - (intOf i).toNat)
      case atStart => exact ⟨0, fs, _, Nat.zero_le _, rfl, HJ.out, hb1, hb2, hbw⟩
      case round =>
        clear hb1 hb2 hbw HJ
        obtain ⟨j, fs, ms, hj, rfl, hJ, hb1, hb2, hbw⟩ := hrel
        by_cases hltj : j < l.length
        · obtain ⟨b, off, rfl, hbb, x0, x1, x2, x3⟩ := hs.at4 hbw hltj
          have hmok := (proper_sk HP.out).2.2 l[j] (List.getElem_mem hltj)
          obtain ⟨hsk, _, _⟩ := proper_sk HP.out
          obtain ⟨ma1, ma2⟩ := meetOk_bnd hmok
          have hmt := meetOk_mt hmok
          obtain ⟨a, haL, ha1, ha2, _⟩ := (fnd_bnd hsk l[j].1).resolve_left (fun h => by rw [h.2] at ma1; cases ma1)
          obtain ⟨b', hbL, hb1', hb2', _⟩ := (fnd_bnd hsk l[j].2.2.1).resolve_left (fun h => by rw [h.2] at ma2; cases ma2)
          have hfl := hJ.1
          have hml := hJ.2.1
          have hBd := bdN_le (show j ≤ 8 by omega)
          have bA := hJ.2.2.2.2 a haL
          have bB := hJ.2.2.2.2 b' hbL
          have bk := fun k (hk : k < L.length) => hJ.2.2.2.2 k hk
          obtain ⟨bA1, bA2⟩ := bA
          obtain ⟨bB1, bB2⟩ := bB
          obtain ⟨hBd1, hBd2⟩ := hBd
          have ea : gp L a = l[j].1 := by rw [gp_at haL]; exact ha2
          have eb : gp L b' = l[j].2.2.1 := by rw [gp_at hbL]; exact hb2'
          have htk := List.take_succ_eq_append_getElem hltj
          have HJ := hide (And.intro hJ (And.intro ea (And.intro eb (And.intro htk (And.intro hmt hsk)))))
          have hmt' := hmt
          obtain ⟨t1, t2, t3, t4⟩ := hmt'
          clear hJ ea eb htk hmt hsk hmok ma1 ma2 ha2 hb2'
          have HA := hide ha1
          have HB2 := hide hb1'
          clear ha1 hb1'
          have hji : (j : Int) < (l.length : Int) := by omega
          have hj0 : (0 : Int) ≤ (j : Int) := by omega
          have hai : (a : Int) < (L.length : Int) := by omega
          have ha0 : (0 : Int) ≤ (a : Int) := by omega
          have hbi : (b' : Int) < (L.length : Int) := by omega
          have hb0 : (0 : Int) ≤ (b' : Int) := by omega
          have y1 := blkA hb1 hfl haL
          have y2 := blkA hb1 hfl hbL
          have z1 := blkA hb2 hml haL
          have z2 := blkA hb2 hml hbL
          have lt1 := hb1.lt
          have lt2 := hb2.lt
          have HB := hide (And.intro hb1 (And.intro hb2 hbw))
          have hLb := hr.to hbw
          have hLw := fun o => hLb.to (balloc (Below.refl wr.heap.size wr) o)
          have HLW := hide hLw
          clear hb1 hb2 hLw
          go_wp2_with fail
          refine (f49v HA.out A c _ hn hc (HLW.out _)).mono ?_
          rintro e w' ⟨rfl, rfl⟩
          go_wp2_with fail
          refine (f49v HB2.out A c _ hn hc (HLW.out _)).mono ?_
          rintro e w' ⟨rfl, rfl⟩
          cases hq : (gi fs a == gi fs b')
          · go_wp2_with fail
            go_quiet (fail)
            go_wp2_with fail
            go_quiet (fail)
            go_wp2_with fail
            have hsh : -20000000000 ≤ gi ms a - (l[j].2.1 - l[j].2.2.2) - gi ms b' ∧ gi ms a - (l[j].2.1 - l[j].2.2.2) - gi ms b' ≤ 20000000000 := by omega
            obtain ⟨hsh1, hsh2⟩ := hsh
            obtain ⟨sh, hshe⟩ : ∃ sh, sh = gi ms a - (l[j].2.1 - l[j].2.2.2) - gi ms b' := ⟨_, rfl⟩
            rw [← hshe] at hsh1 hsh2 ⊢
            have HS := hide hshe
            clear hshe y1 y2 z1 z2
            go_loopw [18] (fun i wx => ∃ (k : Nat) (fs' ms' : List Int), k ≤ L.length ∧ i = .int .i64 k ∧ fs'.length = L.length ∧ ms'.length = L.length ∧
              (∀ x, x < L.length → gi fs' x = if x < k ∧ gi fs x = gi fs b' then gi fs a else gi fs x) ∧ (∀ x, x < L.length → gi ms' x = if x < k ∧ gi fs x = gi fs b' then gi ms x + sh else gi ms x) ∧
              Blk wx w.heap.size 3 (Ia fs') ∧ Blk wx (w.heap.size + 1) 3 (Ia ms') ∧ Below w.heap.size w wx) (fun i _ => L.length - (intOf i).toNat)
            case atStart =>
              obtain ⟨hb1, hb2, hbw⟩ := HB.out
              exact ⟨0, fs, ms, Nat.zero_le _, rfl, hfl, hml, fun x _ => by simp, fun x _ => by simp, ((hb1.alloc _).drewN _).drewN _, ((hb2.alloc _).drewN _).drewN _, below_drewN (below_drewN (balloc hbw _) _) _⟩
            case round =>
              obtain ⟨k, fs', ms', hk, rfl, hfl', hml', hf', hm', g1, g2, hbx⟩ := hrel
              by_cases hltk : k < L.length
              · have hki : (k : Int) < (L.length : Int) := by omega
                have hk0 : (0 : Int) ≤ (k : Int) := by omega
                have y1 := blkA g1 hfl' hltk
                have y2 := blkA g1 hfl' haL
                have z1 := blkA g2 hml' hltk
                have e1 : gi fs' k = gi fs k := by rw [hf' k hltk, if_neg (by omega)]
                have e2 : gi fs' a = gi fs a := by
                  rw [hf' a haL, if_neg (fun h => by
                    have := h.2
                    rw [beq_eq_false_iff_ne] at hq
                    exact hq this)]
                have e3 : gi ms' k = gi ms k := by rw [hm' k hltk, if_neg (by omega)]
                rw [e1] at y1
                rw [e2] at y2
                rw [e3] at z1
                have v1 := g1.free k
                have v2 := g2.free k
                have l1 := g1.lt
                have l2 := g2.lt
                have bkk := bk k hltk
                obtain ⟨bkk1, bkk2⟩ := bkk
                have HG := hide (And.intro g1 (And.intro g2 (And.intro hbx (And.intro hf' hm'))))
                clear g1 g2 hf' hm' e1 e2 e3
                cases hqk : (gi fs k == gi fs b')
                · go_wp2_with fail
                  go_roundw
                  case rel =>
                    obtain ⟨g1, g2, hbx, hf', hm'⟩ := HG.out
                    have hne : gi fs k ≠ gi fs b' := beq_eq_false_iff_ne.1 hqk
                    refine ⟨k + 1, fs', ms', by omega, by go_num, hfl', hml', fun x hx => ?_, fun x hx => ?_, g1, g2, hbx⟩
                    · rw [hf' x hx]
                      by_cases e : x = k
                      · subst e; rw [if_neg (fun h => hne h.2), if_neg (fun h => hne h.2)]
                      · have : (x < k ∧ gi fs x = gi fs b') ↔ (x < k + 1 ∧ gi fs x = gi fs b') := by omega
                        simp only [this]
                    · rw [hm' x hx]
                      by_cases e : x = k
                      · subst e; rw [if_neg (fun h => hne h.2), if_neg (fun h => hne h.2)]
                      · have : (x < k ∧ gi fs x = gi fs b') ↔ (x < k + 1 ∧ gi fs x = gi fs b') := by omega
                        simp only [this]
                  case measure => simp [intOf]; omega
                · go_wp2_with fail
                  go_roundw
                  case rel =>
                    obtain ⟨g1, g2, hbx, hf', hm'⟩ := HG.out
                    have he : gi fs k = gi fs b' := by simpa using hqk
                    refine ⟨k + 1, fs'.set k (gi fs a), ms'.set k (gi ms k + sh), by omega, by go_num, by simp [hfl'], by simp [hml'], fun x hx => ?_, fun x hx => ?_, (blkSet g1 k _).other (p := ⟨w.heap.size + 1, k, none⟩) (by simp) _, blkSet (g2.other (p := ⟨w.heap.size, k, none⟩) (by simp) _) k _, bset (bset hbx (by simp) _) (by simp) _⟩
                    · rw [gi_set (by omega)]
                      by_cases e : x = k
                      · subst e; rw [if_pos rfl, if_pos ⟨by omega, he⟩]
                      · rw [if_neg e, hf' x hx]
                        have : (x < k ∧ gi fs x = gi fs b') ↔ (x < k + 1 ∧ gi fs x = gi fs b') := by omega
                        simp only [this]
                    · rw [gi_set (by omega)]
                      by_cases e : x = k
                      · subst e; rw [if_pos rfl, if_pos ⟨by omega, he⟩]
                      · rw [if_neg e, hm' x hx]
                        have : (x < k ∧ gi fs x = gi fs b') ↔ (x < k + 1 ∧ gi fs x = gi fs b') := by omega
                        simp only [this]
                  case measure => simp [intOf]; omega
              · have HG := hide (And.intro g1 (And.intro g2 (And.intro hf' hm')))
                clear g1 g2 hf' hm'
                go_wp2_with fail
                go_roundw
                case rel =>
                  obtain ⟨g1, g2, hf', hm'⟩ := HG.out
                  obtain ⟨hJ, ea, eb, htk, hmt, hsk⟩ := HJ.out
                  refine ⟨j + 1, fs', ms', by omega, by go_num, ?_, g1, g2, hbx⟩
                  rw [htk]
                  have hbd := bdN_succ j
                  refine (JI.merge (B' := 3 * bdN j + 1000000) hsk hJ hmt haL hbL ea eb (beq_eq_false_iff_ne.1 hq) rfl hfl' hml' (fun x hx => ?_) (fun x hx => ?_)).le (by omega)
                  · rw [hf' x hx]
                    have : (x < k ∧ gi fs x = gi fs b') ↔ gi fs x = gi fs b' := by omega
                    simp only [this]
                  · rw [hm' x hx, HS.out]
                    have : (x < k ∧ gi fs x = gi fs b') ↔ gi fs x = gi fs b' := by omega
                    simp only [this]
                case measure => simp [intOf]; omega
          · cases hq2 : (gi ms a - gi ms b' != l[j].2.1 - l[j].2.2.2)
            · go_wp2_with fail
              go_quiet (fail)
              go_wp2_with fail
              go_quiet (fail)
              go_wp2_with fail
              go_roundw
              case rel =>
                obtain ⟨hb1, hb2, hbw⟩ := HB.out
                obtain ⟨hJ, ea, eb, htk, hmt, hsk⟩ := HJ.out
                refine ⟨j + 1, fs, ms, by omega, by go_num, ?_, ((hb1.alloc _).drewN _), ((hb2.alloc _).drewN _), below_drewN (balloc hbw _) _⟩
                rw [htk]
                have := bdN_succ j
                exact JI.stay hsk hJ (by omega) haL hbL ea eb (by simpa using hq) (by simpa using hq2)
              case measure => simp [intOf]; omega
            · go_wp2_with fail
              go_quiet (fail)
              go_wp2_with fail
              go_quiet (fail)
              go_wp2_with fail
              go_ret3
              obtain ⟨hb1, hb2, hbw⟩ := HB.out
              obtain ⟨hJ, ea, eb, htk, hmt, hsk⟩ := HJ.out
              refine ⟨below_drewN (below_drewN (balloc hbw _) _) _, .inr ⟨rfl, L[a], List.getElem_mem haL, ?_⟩⟩
              have hbad := JI.bad hJ haL hbL ea eb (by simpa using hq) (by simpa using hq2)
              rw [← htk, gp_at haL] at hbad
              exact bad_mono (fun m hm => List.mem_of_mem_take hm) hbad
        · have hfull : l.take j = l := List.take_of_length_le (by omega)
          rw [hfull] at hJ
          have HF := hide (hJ.le (bdN_le (show j ≤ 8 by omega)).2)
          have HB := hide (And.intro hb1 hb2)
          clear hJ hfull hb1 hb2
          go_wp2_with fail
          go_ret3
          exact ⟨hbw, .inl ⟨fs, ms, rfl, HF.out, HB.out.1, HB.out.2⟩⟩
end Go.Proofs.Ytenhghkiapkejaa
