/- Contract: Valid. -/
import Derived.Test.YtncdombfhcfobaaGreatM12
namespace Go.Proofs.YtncdombfhcfobaaGreat
open Go.RowKit
def putD (k v : Int) : List (Int × Int) → List (Int × Int)
  | [] => [(k, v)]
  | p :: l => if p.1 = k then (k, v) :: l else p :: putD k v l
def dvP (p : Int × Int) : Int × Value := (p.1, .int .i64 p.2)
theorem putD_kv (k v : Int) : ∀ D, (putD k v D).map dvP = putL k (.int .i64 v) (D.map dvP)
  | [] => rfl
  | p :: D => by
    have ih := putD_kv k v D
    by_cases h : p.1 = k
    · simp [putD, putL, dvP, h]
    · simp only [putD, h, if_false, List.map_cons, ih, putL, dvP]
theorem lookup_dv (k : Int) : ∀ D : List (Int × Int), (D.map dvP).lookup k = (D.lookup k).map (Value.int .i64)
  | [] => rfl
  | p :: D => by
    obtain ⟨a, n⟩ := p
    have ih := lookup_dv k D
    by_cases h : k = a
    · subst h; simp [dvP, List.lookup]
    · simp only [List.map_cons, dvP, List.lookup, beq_eq_false_iff_ne.2 h, ih]
theorem lookup_putD (k v j : Int) : ∀ D, (putD k v D).lookup j = if j = k then some v else D.lookup j
  | [] => by
    by_cases h : j = k
    · subst h; simp [putD]
    · simp [putD, List.lookup, h, beq_eq_false_iff_ne.2 h]
  | p :: D => by
    obtain ⟨a, b⟩ := p
    by_cases ha : a = k
    · subst ha
      simp only [putD, if_true, List.lookup]
      by_cases h : j = a
      · subst h; simp
      · simp [h, beq_eq_false_iff_ne.2 h]
    · have ih := lookup_putD k v j D
      simp only [putD, ha, if_false, List.lookup]
      by_cases h : j = a
      · subst h; simp [ha]
      · simp [beq_eq_false_iff_ne.2 h, ih]
def lvStep (D : List (Int × Int)) (lv : Int) (s : It) : Int :=
  if s.kind = 2 then match D.lookup s.mod with
    | some n => if lv < n + 1 then n + 1 else lv
    | none => 13
  else lv
def levels (D : List (Int × Int)) (l : List It) : Int := l.foldl (lvStep D) 1
def InvD (D : List (Int × Int)) : Prop := ∀ k n, D.lookup k = some n → 1 ≤ n ∧ n ≤ 12
theorem lvStep_bd {D : List (Int × Int)} (h : InvD D) {lv : Int} (h1 : 1 ≤ lv) (h2 : lv ≤ 13) (s : It) : 1 ≤ lvStep D lv s ∧ lvStep D lv s ≤ 13 := by
  unfold lvStep
  split
  · split
    · rename_i n hn
      have := h _ _ hn
      split <;> omega
    · omega
  · omega
theorem foldl_bd {D : List (Int × Int)} (h : InvD D) : ∀ (l : List It) (lv : Int), 1 ≤ lv → lv ≤ 13 → 1 ≤ l.foldl (lvStep D) lv ∧ l.foldl (lvStep D) lv ≤ 13
  | [], _, h1, h2 => ⟨h1, h2⟩
  | s :: l, _, h1, h2 => by
    have := lvStep_bd h h1 h2 s
    exact foldl_bd h l _ this.1 this.2
theorem levels_snoc (D : List (Int × Int)) (l : List It) (k : Nat) (hk : k < l.length) : levels D (l.take (k + 1)) = lvStep D (levels D (l.take k)) l[k] := by
  unfold levels
  rw [List.take_succ_eq_append_getElem hk, List.foldl_append]
  rfl
def dStep (D : List (Int × Int)) (m : Mo) : List (Int × Int) := if levels D m.items ≤ 12 then putD m.id (levels D m.items) D else D
theorem dStep_inv {D : List (Int × Int)} (h : InvD D) (m : Mo) : InvD (dStep D m) := by
  unfold dStep
  split
  · intro k n hn
    rw [lookup_putD] at hn
    split at hn
    · injection hn with hn
      subst hn
      have := foldl_bd h m.items 1 (by omega) (by omega)
      exact ⟨this.1, by assumption⟩
    · exact h k n hn
  · exact h
def dRound (ms : List Mo) (D : List (Int × Int)) : List (Int × Int) := ms.foldl dStep D
theorem dFold_inv : ∀ (ms : List Mo) (D : List (Int × Int)), InvD D → InvD (ms.foldl dStep D)
  | [], _, h => h
  | m :: ms, _, h => dFold_inv ms _ (dStep_inv h m)
theorem dFold_snoc (ms : List Mo) (D : List (Int × Int)) (k : Nat) (hk : k < ms.length) : (ms.take (k + 1)).foldl dStep D = dStep ((ms.take k).foldl dStep D) ms[k] := by
  rw [List.take_succ_eq_append_getElem hk, List.foldl_append]
  rfl
def deepN (ms : List Mo) : Nat → List (Int × Int)
  | 0 => []
  | t + 1 => dRound ms (deepN ms t)
theorem deepN_inv (ms : List Mo) : ∀ t, InvD (deepN ms t)
  | 0 => fun k n h => by simp [deepN] at h
  | t + 1 => dFold_inv ms _ (deepN_inv ms t)
def moOk (ms : List Mo) (m : Mo) : Bool := (inB m.id 1 20 && itsOk m.items) && knownB ms m.items
def validB (ms : List Mo) : Bool := decide (ms.length ≤ 20) && ascB 1 20 0 (ms.map (·.id)) && ms.all (moOk ms) && decide ((deepN ms 12).length = ms.length)
theorem c_ascModv {lo hi p0 : Int} {l : List MR} {b : Bool} (h : ascB lo hi p0 (l.map (·.id)) = b) (A : Option Addr) (n c : Nat) (w : World) (hn : n ≤ 9223372036854775807) (hp0 : p0 < lo) (hr : SlR w w.heap.size 2 A n (l.flatMap cM)) :
    Calls Tryz.prog 44 #[.slice A n c, .int .i64 lo, .int .i64 hi, .func (.func 45) #[] #[]] w fun e w' => e = .returned (.bool b) ∧ Below w.heap.size w w' := by
  subst h; exact c_ascMod A n c lo hi p0 l w hn hp0 hr
theorem beq_cast (a b : Nat) : ((a : Int) == (b : Int)) = decide (a = b) := by
  by_cases h : a = b
  · subst h; simp
  · have h' : ¬ (a : Int) = (b : Int) := by omega
    simp only [beq_eq_false_iff_ne.2 h', h, decide_false]
theorem zvInt (w : World) : (zeroValue 3).run Tryz.prog w = .ok (.int .i64 0) w := Tryz.zeroValue3 w
set_option maxRecDepth 100000 in
set_option maxHeartbeats 4000000 in
theorem c_Valid (A : Option Addr) (N c : Nat) (rows : List MR) (ms : List Mo) (w : World) (hN : N ≤ 9223372036854775807) (hr : SlR w w.heap.size 2 A N (rows.flatMap cM)) (hm : Mods w rows ms) :
    Calls Tryz.prog 11 #[.slice A N c] w fun e w' => e = .returned (.bool (validB ms)) ∧ Below w.heap.size w w' := by
  have hl := hr.lenm
  have hml : ms.length = N := by rw [← hm.1]; exact hl
  by_cases h20 : N ≤ 20
  · have hd : decide ((20 : Int) < (N : Int)) = false := by simp; omega
    have hd2 : decide (20 < N) = false := by simp; omega
    cases hasc : ascB 1 20 0 (ms.map (·.id)) with
    | false =>
      have HE := hide (show validB ms = false by unfold validB; rw [hasc]; simp)
      have HA := hide (show ascB 1 20 0 (rows.map (·.id)) = false by rw [hm.ids]; exact hasc)
      clear hasc hl hml hm
      go_enter Tryz.func11, Tryz.ntmps11
      go_wp2_with fail
      refine (c_ascModv HA.out A N c _ hN (by omega) hr).mono ?_
      rintro e w1 ⟨rfl, hb1⟩
      go_wp2
      go_ret
      exact ⟨ret_bool HE.out.symm, hb1⟩
    | true =>
      have HE : Hid (validB ms = (ms.all (moOk ms) && decide ((deepN ms 12).length = ms.length))) := hide (by unfold validB; rw [hasc, hml]; simp [h20])
      have HA := hide (show ascB 1 20 0 (rows.map (·.id)) = true by rw [hm.ids]; exact hasc)
      have HL := hide (And.intro hl hml)
      clear hasc hl hml
      go_enter Tryz.func11, Tryz.ntmps11
      go_wp2_with fail
      refine (c_ascModv HA.out A N c _ hN (by omega) hr).mono ?_
      rintro e w1 ⟨rfl, hb1⟩
      have hr1 := hr.to' hb1
      have hm1 := hm.to hb1
      clear hr hm
      go_wp2_with fail
      go_loopw [23] (fun i wr => ∃ k : Nat, k ≤ N ∧ i = .int .i64 k ∧ (ms.take k).all (moOk ms) = true ∧ Below w1.heap.size w1 wr) (fun i _ => N - (intOf i).toNat)
      case atStart => exact ⟨0, Nat.zero_le _, rfl, rfl, Below.refl _ _⟩
      case round =>
        obtain ⟨k, hk, rfl, hall, hb⟩ := hrel
        have HAL := hide hall
        clear hall
        by_cases hlt : k < N
        · obtain ⟨hl, hml⟩ := HL.out
          have hkl : k < rows.length := by omega
          have hkm : k < ms.length := by omega
          have hr2 := hr1.to' hb
          have hm2 := hm1.to hb
          obtain ⟨e1, e2, e3, e4⟩ := hm2.2 k hkl hkm
          have hsn := List.take_succ_eq_append_getElem hkm
          have hjk : (k : Int) < (N : Int) := by omega
          have hmem : ms[k] ∈ ms := List.getElem_mem hkm
          have HS := hide (And.intro hsn hmem)
          have hA1 := balloc (Below.refl wr.heap.size wr) (.cells #[.int .i64 rows[k].id, .slice rows[k].a rows[k].n rows[k].c] 37)
          have gM := Blk.new wr 37 (cM rows[k])
          have hcP := c_Proper rows[k] ms[k].items _ (by omega) (e4.to' hA1)
          obtain ⟨b, off, rfl, hbb, x0, x1⟩ := hr2.atM (Below.refl _ _) hkl
          have HR := hide (And.intro hr1 (And.intro hm1 (And.intro hr2 (And.intro hm2 e4))))
          clear hr1 hm1 hr2 hm2 e4 hsn hmem hl hml
          have HE1 := hide e1
          clear e1
          generalize hrk : rows[k] = rk at *
          generalize hmk : ms[k] = mk at *
          clear hrk hmk hkl hkm
          go_wp2_with fail
          refine hcP.mono ?_
          clear hcP
          rintro e w2 ⟨rfl, hb2⟩
          obtain ⟨y0, y1⟩ := (gM.below hb2 gM.lt).two
          have hg2 := (gM.below hb2 gM.lt).lt
          cases hP : (inB rk.id 1 20 && itsOk mk.items) with
          | false =>
            have hF := hide (show validB ms = false by
              rw [HE.out, Bool.and_eq_false_iff]
              left
              rw [List.all_eq_false]
              exact ⟨mk, HS.out.2, by unfold moOk; rw [← HE1.out, hP]; simp⟩)
            clear hP
            go_wp2
            go_ret
            exact ⟨ret_bool hF.out.symm, bthen hb1 (bthen hb (bthen hA1 hb2))⟩
          | true =>
            have HP := hide hP
            clear hP
            obtain ⟨hr1, hm1, hr2, hm2, e4⟩ := HR.out
            have hcK := c_known (some ⟨b, off, none⟩) N c rows ms rk.a rk.n rk.c mk.items _ hN (by omega) ((hr2.to' hA1).to' hb2) ((hm2.to hA1).to hb2) ((e4.to' hA1).to' hb2)
            clear hr1 hm1 hr2 hm2 e4
            go_wp2_with fail
            refine hcK.mono ?_
            clear hcK
            rintro e w3 ⟨rfl, hb3⟩
            have hb13 := bthen hb (bthen (bthen hA1 hb2) hb3)
            cases hK : knownB ms mk.items with
            | false =>
              have hF := hide (show validB ms = false by
                rw [HE.out, Bool.and_eq_false_iff]
                left
                rw [List.all_eq_false]
                exact ⟨mk, HS.out.2, by unfold moOk; rw [hK]; simp⟩)
              clear hK
              go_wp2
              go_ret
              exact ⟨ret_bool hF.out.symm, bthen hb1 hb13⟩
            | true =>
              have HK := hide hK
              clear hK
              go_wp2_with fail
              go_roundw
              case rel =>
                refine ⟨k + 1, by omega, by go_num, ?_, hb13⟩
                rw [HS.out.1, List.all_append, HAL.out]
                simp only [List.all_cons, List.all_nil, Bool.and_true, Bool.true_and]
                unfold moOk
                rw [← HE1.out, HP.out, HK.out]; rfl
              case measure => simp [intOf]; omega
        · obtain rfl : N = k := by omega
          have hall : ms.all (moOk ms) = true := by
            have := HAL.out
            rw [← HL.out.2, List.take_length] at this
            exact this
          have HE := hide (show validB ms = decide ((deepN ms 12).length = ms.length) by rw [HE.out, hall]; rfl)
          have hmm := @run_makeMap Tryz.prog
          have hr2 := hr1.to' hb
          have hm2 := hm1.to hb
          have hb01 := bthen hb1 hb
          clear hall hr1 hm1 hb hb1 hlt
          obtain ⟨wo, rfl⟩ : ∃ wo : World, wo = wr := ⟨_, rfl⟩
          go_wp2_with fail
          clear hmm
          have him0 := IM.new wo
          have hA2 := balloc (Below.refl wo.heap.size wo) (.map #[] 0)
          obtain ⟨hl, hml⟩ := HL.out
          go_loopw [39] (fun i wr => ∃ q : Nat, q ≤ 12 ∧ i = .int .i64 q ∧ IM wr wo.heap.size ((deepN ms q).map dvP) ∧ Below wo.heap.size wo wr) (fun i _ => 12 - (intOf i).toNat)
          case atStart => exact ⟨0, by omega, rfl, him0, hA2⟩
          case round =>
            obtain ⟨q, hq, rfl, himq, hbq⟩ := hrel
            have hinv := deepN_inv ms q
            obtain ⟨wp, rfl⟩ : ∃ wp : World, wp = wr := ⟨_, rfl⟩
            by_cases hltq : q < 12
            · have hjq : (q : Int) < 12 := by omega
              have HM := hide (show deepN ms (q + 1) = ms.foldl dStep (deepN ms q) from rfl)
              generalize deepN ms q = D0 at *
              clear him0 hA2
              go_wp2_with fail
              go_loopw [43] (fun i wr => ∃ k : Nat, k ≤ N ∧ i = .int .i64 k ∧ IM wr wo.heap.size (((ms.take k).foldl dStep D0).map dvP) ∧ Below wo.heap.size wo wr) (fun i _ => N - (intOf i).toNat)
              case atStart => exact ⟨0, by omega, rfl, himq, hbq⟩
              case round =>
                obtain ⟨k, hk, rfl, him3, hb3⟩ := hrel
                obtain ⟨wq, rfl⟩ : ∃ wq : World, wq = wr := ⟨_, rfl⟩
                by_cases hltk : k < N
                · have hkl : k < rows.length := by omega
                  have hkm : k < ms.length := by omega
                  obtain ⟨b, off, rfl, hbb, x0, x1⟩ := hr2.atM hb3 hkl
                  obtain ⟨e1, e2, e3, e4⟩ := hm2.2 k hkl hkm
                  have hjk : (k : Int) < (N : Int) := by omega
                  have hinv3 : InvD ((ms.take k).foldl dStep D0) := dFold_inv _ _ hinv
                  have HSm := hide (dFold_snoc ms D0 k hkm)
                  have hil := e4.lenI
                  have HE1 := hide e1
                  clear e1 hr2 hm2 himq hbq hl hml
                  generalize hrk : rows[k] = rk at *
                  generalize hmk : ms[k] = mk at *
                  generalize (ms.take k).foldl dStep D0 = D at *
                  clear hrk hmk hkl hkm
                  have gM : Blk (wq.alloc (.cells #[.int .i64 rk.id, .slice rk.a rk.n rk.c] 37)) wq.heap.size 37 (cM rk) := Blk.new wq 37 (cM rk)
                  have him5 := him3.alloc (.cells #[.int .i64 rk.id, .slice rk.a rk.n rk.c] 37)
                  have hb5 := balloc (Below.refl wq.heap.size wq) (.cells #[.int .i64 rk.id, .slice rk.a rk.n rk.c] 37)
                  have hb35 : Below wo.heap.size wo (wq.alloc (.cells #[.int .i64 rk.id, .slice rk.a rk.n rk.c] 37)) := bthen hb3 hb5
                  go_wp2_with fail
                  generalize hw5 : wq.alloc (.cells #[.int .i64 rk.id, .slice rk.a rk.n rk.c] 37) = w5 at *
                  have HW5 := hide hw5
                  clear hw5
                  have hz5 : wq.heap.size < w5.heap.size := gM.lt
                  go_loopw [8, 50] (fun lv i wr => ∃ j : Nat, j ≤ rk.n ∧ i = .int .i64 j ∧ lv = .int .i64 (levels D (mk.items.take j)) ∧ Below w5.heap.size w5 wr) (fun _ i _ => rk.n - (intOf i).toNat)
                  case atStart => exact ⟨0, by omega, rfl, rfl, Below.refl _ _⟩
                  case round =>
                    obtain ⟨j, hj, rfl, rfl, hb4⟩ := hrel
                    by_cases hltj : j < rk.n
                    · have hjl : j < mk.items.length := by omega
                      have hji : (j : Int) < (rk.n : Int) := by omega
                      have hbo4 := bthen hb35 hb4
                      obtain ⟨b', off', hA', hbb', z0, z1, z2, z3, z4, z5⟩ := e4.atI hbo4 hjl
                      have him4 := him5.below hb4 him5.lt
                      have HSn := hide (levels_snoc D mk.items j hjl)
                      have hlb := foldl_bd hinv3 (mk.items.take j) 1 (by omega) (by omega)
                      have hlk := lookup_dv mk.items[j].mod D
                      have hinv4 := hinv3 mk.items[j].mod
                      rw [hA'] at *
                      clear hA' e4 hil him5 hinv hinv3 him3 hb3
                      generalize mk.items[j] = s at *
                      change 1 ≤ levels D (mk.items.take j) ∧ levels D (mk.items.take j) ≤ 13 at hlb
                      generalize levels D (mk.items.take j) = lv at *
                      obtain ⟨hlb1, hlb2⟩ := hlb
                      clear hjl
                      obtain ⟨sid, skind, sx, sy, stext, smod⟩ := s
                      simp only [] at z0 z1 z2 z3 z4 z5 hlk hinv4
                      by_cases hk2 : skind = 2
                      · subst hk2
                        cases hD : D.lookup smod with
                        | none =>
                          rw [hD] at hlk
                          have HLk := hide hlk
                          have HSn := hide (show levels D (mk.items.take (j + 1)) = 13 by rw [HSn.out]; unfold lvStep; simp only [if_true]; rw [hD])
                          clear hlk hD hinv4
                          go_wp2_with (at_lookup; refine wpList_lookup_im rfl _ _ 84 true rfl 3 3 _ Tryz.underlying84 Tryz.underlying3 (zvInt _) rfl (him4.alloc _) smod rfl (.tuple #[.int .i64 0, .bool false]) (by rw [HLk.out]; rfl) ?_)
                          go_roundw
                          case rel => exact ⟨j + 1, by omega, by go_num, by rw [HSn.out]; first | done | (congr 1; omega), balloc hb4 _⟩
                          case measure => simp [intOf]; omega
                        | some nv =>
                          rw [hD] at hlk
                          have HLk := hide hlk
                          obtain ⟨hn1, hn2⟩ := hinv4 nv hD
                          by_cases hmx : lv < nv + 1
                          · have HSn := hide (show levels D (mk.items.take (j + 1)) = nv + 1 by rw [HSn.out]; unfold lvStep; simp only [if_true]; rw [hD]; simp only []; rw [if_pos hmx])
                            clear hlk hD hinv4
                            go_wp2_with (at_lookup; refine wpList_lookup_im rfl _ _ 84 true rfl 3 3 _ Tryz.underlying84 Tryz.underlying3 (zvInt _) rfl (him4.alloc _) smod rfl (.tuple #[.int .i64 nv, .bool true]) (by rw [HLk.out]; rfl) ?_)
                            go_roundw
                            case rel => exact ⟨j + 1, by omega, by go_num, by rw [HSn.out]; first | done | (congr 1; omega), balloc hb4 _⟩
                            case measure => simp [intOf]; omega
                          · have HSn := hide (show levels D (mk.items.take (j + 1)) = lv by rw [HSn.out]; unfold lvStep; simp only [if_true]; rw [hD]; simp only []; rw [if_neg hmx])
                            clear hlk hD hinv4
                            go_wp2_with (at_lookup; refine wpList_lookup_im rfl _ _ 84 true rfl 3 3 _ Tryz.underlying84 Tryz.underlying3 (zvInt _) rfl (him4.alloc _) smod rfl (.tuple #[.int .i64 nv, .bool true]) (by rw [HLk.out]; rfl) ?_)
                            go_roundw
                            case rel => exact ⟨j + 1, by omega, by go_num, by rw [HSn.out]; first | done | (congr 1; omega), balloc hb4 _⟩
                            case measure => simp [intOf]; omega
                      · have hkb : ((skind : Int) == 2) = false := by simpa using hk2
                        have HSn := hide (show levels D (mk.items.take (j + 1)) = lv by rw [HSn.out]; unfold lvStep; simp only []; rw [if_neg hk2])
                        obtain ⟨nv, bb, hlk2⟩ : ∃ (nv : Int) (bb : Bool), Value.tuple #[((D.map dvP).lookup smod).getD (.int .i64 0), .bool ((D.map dvP).lookup smod).isSome] = .tuple #[.int .i64 nv, .bool bb] := by
                          rw [hlk]
                          cases D.lookup smod with
                          | none => exact ⟨0, false, rfl⟩
                          | some nv => exact ⟨nv, true, rfl⟩
                        have HLk := hide hlk2
                        clear hlk hlk2 hinv4 hk2
                        go_wp2_with (at_lookup; refine wpList_lookup_im rfl _ _ 84 true rfl 3 3 _ Tryz.underlying84 Tryz.underlying3 (zvInt _) rfl (him4.alloc _) smod rfl (.tuple #[.int .i64 nv, .bool bb]) (HLk.out) ?_)
                        go_roundw
                        case rel => exact ⟨j + 1, by omega, by go_num, by rw [HSn.out]; first | done | (congr 1; omega), balloc hb4 _⟩
                        case measure => simp [intOf]; omega
                    · obtain rfl : rk.n = j := by omega
                      have htk : mk.items.take rk.n = mk.items := by rw [← hil, List.take_length]
                      rw [htk]
                      have hlb := foldl_bd hinv3 mk.items 1 (by omega) (by omega)
                      change 1 ≤ levels D mk.items ∧ levels D mk.items ≤ 13 at hlb
                      obtain ⟨hlb1, hlb2⟩ := hlb
                      have him6 := him5.below hb4 him5.lt
                      obtain ⟨y0, y1⟩ := (gM.below hb4 gM.lt).two
                      have hg6 := (gM.below hb4 gM.lt).lt
                      have hbo4 := bthen hb35 hb4
                      have HLV := hide (show dStep D mk = if levels D mk.items ≤ 12 then putD mk.id (levels D mk.items) D else D from rfl)
                      generalize levels D mk.items = lv at *
                      clear htk e4 hil him5 hinv hinv3 him3 hb3
                      by_cases hle : lv ≤ 12
                      · have HLV := hide (show dStep D mk = putD rk.id lv D by rw [HLV.out, if_pos hle, HE1.out])
                        go_wp2_with (at_mapUpdate; refine wpList_mapUpdate_im rfl _ _ _ 84 (Or.inl rfl) 3 3 Tryz.underlying84 Tryz.underlying3 rfl him6 rk.id rfl (.int .i64 lv) rfl ?_; intro w7 him7 hg7 hs7)
                        go_roundw
                        case rel => exact ⟨k + 1, by omega, by go_num, by rw [HSm.out, HLV.out, putD_kv]; exact him7, hbo4.grown hg7 (by have := hbo4.size; omega) (fun j e => by cases e; omega)⟩
                        case measure => simp [intOf]; omega
                      · have HLV := hide (show dStep D mk = D by rw [HLV.out, if_neg hle])
                        go_wp2_with fail
                        go_roundw
                        case rel => exact ⟨k + 1, by omega, by go_num, by rw [HSm.out, HLV.out]; exact him6, hbo4⟩
                        case measure => simp [intOf]; omega
                · obtain rfl : N = k := by omega
                  have him3' : IM wq wo.heap.size ((deepN ms (q + 1)).map dvP) := by
                    rw [HM.out]
                    rw [← hml, List.take_length] at him3
                    exact him3
                  clear him3 hr2 hm2 hl hml
                  go_wp2_with fail
                  go_roundw
                  case rel => exact ⟨q + 1, by omega, by go_num, him3', hb3⟩
                  case measure => simp [intOf]; omega
            · obtain rfl : q = 12 := by omega
              have HE := hide (show validB ms = decide ((deepN ms 12).length = ms.length) from HE.out)
              have HL := hide (And.intro hl hml)
              clear hl hml hr2 hm2
              go_wp2_with (at_len; refine wpList_len_im rfl _ 84 rfl 3 3 Tryz.underlying84 rfl himq ?_)
              go_ret
              exact ⟨ret_bool (by rw [HE.out, HL.out.2]; exact beq_cast _ _), bthen hb01 hbq⟩
  · have hd : decide ((20 : Int) < (N : Int)) = true := by simp; omega
    have hd2 : decide (20 < N) = true := by simp; omega
    have HE := hide (show validB ms = false by unfold validB; rw [hml]; simp [h20])
    clear hl hml hm hr
    go_enter Tryz.func11, Tryz.ntmps11
    go_wp2
    go_ret
    exact ⟨ret_bool HE.out.symm, Below.refl _ _⟩
end Go.Proofs.YtncdombfhcfobaaGreat
