/- Contract: the reference's Replace; its answer is the package's own. -/
import Derived.Test.YtncdombfhcfobaaGreatG8
namespace Go.Proofs.YtncdombfhcfobaaGreat
open Go.RowKit Go.Shelf
/-- the modules of the numbers 1 .. n, with another definition -/
def rpM (ms : List Mo) (next : Mo) : Nat → List Mo
  | 0 => []
  | n + 1 => if next.id = (n : Int) + 1 then rpM ms next n ++ [next] else match findM ms ((n : Int) + 1) with
    | some m => rpM ms next n ++ [m]
    | none => rpM ms next n
theorem rpM_len (ms : List Mo) (next : Mo) : ∀ n, (rpM ms next n).length ≤ n
  | 0 => Nat.le_refl _
  | n + 1 => by
    have := rpM_len ms next n
    unfold rpM
    split
    · simp; omega
    · split
      · simp; omega
      · omega
def rpOk (ms : List Mo) (next : Mo) : Bool := validB ms && (inB next.id 1 20 && validB (rpM ms next 20))
def RReplacePost (ms : List Mo) (next : Mo) (w : World) (e : Ending) (w' : World) : Prop :=
  Below w.heap.size w w' ∧ (rpOk ms next = false ∧ e = .returned (.tuple #[.slice none 0 0, .int .i64 140]) ∨
    rpOk ms next = true ∧ ∃ A n c rows, e = .returned (.tuple #[.slice A n c, .int .i64 0]) ∧ n ≤ c ∧ c ≤ 9223372036854775807 ∧ SlR w' w'.heap.size 2 A n (rows.flatMap cM) ∧ Mods w' rows (rpM ms next 20))
set_option linter.unusedSimpArgs false in
set_option maxRecDepth 100000 in
set_option maxHeartbeats 4000000 in
theorem c_rReplace (A : Option Addr) (N cc : Nat) (rows : List MR) (ms : List Mo) (r : MR) (next : Mo) (w : World) (hN : N ≤ 100000) (hr : SlR w w.heap.size 2 A N (rows.flatMap cM)) (hm : Mods w rows ms)
    (hid : r.id = next.id) (hn1 : r.n ≤ r.c) (hn2 : r.c ≤ 9223372036854775807) (hrs : SlR w w.heap.size 6 r.a r.n (next.items.flatMap cI)) :
    Calls Tryz.prog 28 #[.slice A N cc, mrV r] w (RReplacePost ms next w) := by
  obtain ⟨i0, hi, hz0, hz1, hz2⟩ := info_parts Tryz.infoMod
  have hb0 := balloc (Below.refl w.heap.size w) (.cells #[.int .i64 r.id, .slice r.a r.n r.c] 37)
  have gN : Blk (w.alloc (.cells #[.int .i64 r.id, .slice r.a r.n r.c] 37)) w.heap.size 37 (cM r) := Blk.new w 37 (cM r)
  have hr0 := hr.to' hb0
  have hm0 := hm.to hb0
  have hs0 := hrs.to' hb0
  have HF : Hid (∀ W : World, Below (w.alloc (.cells #[.int .i64 r.id, .slice r.a r.n r.c] 37)).heap.size (w.alloc (.cells #[.int .i64 r.id, .slice r.a r.n r.c] 37)) W →
      (Blk W w.heap.size 37 (cM r) ∧ SlR W W.heap.size 2 A N (rows.flatMap cM) ∧ Mods W rows ms ∧ SlR W W.heap.size 6 r.a r.n (next.items.flatMap cI)) ∧ Below w.heap.size w W) := hide fun W hW => ⟨⟨gN.below hW gN.lt, hr0.to' hW, hm0.to hW, hs0.to' hW⟩, bthen hb0 hW⟩
  have HI := hide (And.intro hid (And.intro hn1 hn2))
  clear hb0 gN hr0 hm0 hs0 hr hm hrs hid
  unfold mrV
  go_enter Tryz.func28, Tryz.ntmps28
  go_upto_region 1 with (fail)
  generalize w.alloc (.cells #[.int .i64 r.id, .slice r.a r.n r.c] 37) = w0 at *
  obtain ⟨⟨gN, sl, sm, sr⟩, hbw⟩ := HF.out w0 (Below.refl _ _)
  have hk1 := c_rValid A N cc rows ms w0 (by omega) sl sm
  clear gN sl sm sr hbw
  go_wp2_with fail
  refine hk1.mono ?_
  clear hk1
  rintro e w1 ⟨rfl, hb1⟩
  cases hv : validB ms with
  | false =>
    have HR := hide (show rpOk ms next = false by unfold rpOk; rw [hv]; rfl)
    have HW := hide (HF.out w1 hb1).2
    clear hv hb1
    go_wp2_with fail
    go_ret2
    exact ⟨HW.out, .inl ⟨HR.out, rfl⟩⟩
  | true =>
  have HV := hide hv
  have HB1 := hide hb1
  have HW1 := hide (show w.heap.size ≤ w1.heap.size from (HF.out w1 hb1).2.size)
  clear hv hb1
  go_wp2_with fail
  go_loopw [6, 7] (fun v jv wr => ∃ (k : Nat) (Ps : List MR), k ≤ 20 ∧ jv = .int .i64 ((k : Int) + 1) ∧ wr.ownsRow w1.heap.size 37 2 v Ps.length (Ps.flatMap cM) ∧ Mods w1 Ps (rpM ms next k) ∧ Below w1.heap.size w1 wr) (fun _ jv _ => 21 - (intOf jv).toNat)
  case atStart => exact ⟨0, [], by omega, rfl, World.ownsRow_nil _ _ _ _, Mods.nil _, Below.refl _ _⟩
  case round =>
    obtain ⟨k, Ps, hk, rfl, ho, hms, hbr⟩ := hrel
    obtain ⟨⟨gN, sl, sm, sr⟩, hbw⟩ := HF.out wr (bthen HB1.out hbr)
    obtain ⟨x0, x1⟩ := gN.two
    have lN := gN.lt
    have hPl : Ps.length ≤ 20 := by rw [hms.1]; exact Nat.le_trans (rpM_len ms next k) hk
    by_cases hlt : k < 20
    · have hk20 : (k : Int) + 1 ≤ 20 := by omega
      by_cases he : r.id = (k : Int) + 1
      · have heb : (r.id == (k : Int) + 1) = true := by simpa using he
        have hn := hms.snoc (r := r) (m := next) HI.out.1 HI.out.2.1 HI.out.2.2 (HF.out w1 HB1.out).1.2.2.2
        have HN := hide (show Mods w1 (Ps ++ [r]) (rpM ms next (k + 1)) by rw [rpM, if_pos (by rw [← HI.out.1]; exact he)]; exact hn)
        have HO := hide (And.intro ho (And.intro hbr hbr.size))
        have HE := hide he
        have gA : SlR (wr.alloc (.cells #[.int .i64 r.id, .slice r.a r.n r.c] 37)) _ 2 (some ⟨wr.heap.size, 0, none⟩) 1 (cM r) := slr_new _ _ rfl rfl
        clear gN sl sm sr hbw ho hms hbr hn he
        go_wp2_with (at_builtin; refine wpList_append_sl (size := 2) rfl _ _ 28 rfl w1.heap.size 37 i0 zM 32 Tryz.underlying28 hi hz0 hz1 hz2 rfl (by decide) _ Ps.length (Ps.flatMap cM) rfl (HO.out.1.alloc _) 1 1 (cM r) rfl gA (Below.refl _ _) (fun u hu => oneM [r] u (by simpa using hu)) (by unfold maxLen; omega) (by omega) (by have := HO.out.2.2; simp; omega) ?_; intro v6 w7 ho6 hg6 hor6)
        go_roundw
        case rel =>
          refine ⟨k + 1, Ps ++ [r], by omega, by go_num, ?_, HN.out, (balloc HO.out.2.1 _).grown hg6 (by have := HO.out.2.2; simp; omega) (fun g e => (own_lt HO.out.1 g e).1)⟩
          rw [List.length_append, flatM_snoc]
          exact ho6
        case measure => simp [intOf]; omega
      · have heb : (r.id == (k : Int) + 1) = false := by simpa using he
        have hfd := c_rFind A N cc rows ((k : Int) + 1) wr (by omega) sl
        rcases idxF_cases (fun q : MR => decide (q.id = (k : Int) + 1)) rows 0 with ⟨h1, -, h3⟩ | ⟨j, hj, h1, -, h3, -⟩
        · have HN := hide (show Mods w1 Ps (rpM ms next (k + 1)) by
            rw [rpM, if_neg (by rw [← HI.out.1]; exact he)]
            rcases sm.find (n := (k : Int) + 1) with ⟨-, h⟩ | ⟨q, m2, h, -⟩
            · rw [h]; exact hms
            · rw [show fndR rows ((k : Int) + 1) = none from h3] at h; cases h)
          rw [h1] at hfd
          have HO := hide (And.intro ho hbr)
          have HE := hide he
          clear gN sl sm sr hbw ho hms hbr he h1 h3
          go_wp2_with fail
          refine hfd.mono ?_
          clear hfd
          rintro e w3 ⟨rfl, rfl⟩
          go_wp2_with fail
          go_roundw
          case rel => exact ⟨k + 1, Ps, by omega, by go_num, HO.out.1, HN.out, HO.out.2⟩
          case measure => simp [intOf]; omega
        · have hq := sl.atM (Below.refl _ _) hj
          have HN : Hid (Mods w1 (Ps ++ [rows[j]]) (rpM ms next (k + 1))) := hide (by
            rw [rpM, if_neg (by rw [← HI.out.1]; exact he)]
            rcases (HF.out w1 HB1.out).1.2.2.1.find (n := (k : Int) + 1) with ⟨h, -⟩ | ⟨q, m2, hq, hm2, p0, p1, p2, p3, p4⟩
            · rw [show fndR rows ((k : Int) + 1) = some rows[j] from h3] at h; cases h
            · rw [show fndR rows ((k : Int) + 1) = some rows[j] from h3] at hq
              injection hq with hq
              subst hq
              rw [hm2]
              exact hms.snoc (p0.trans p1.symm) p2 p3 p4)
          obtain ⟨b, off, hAe, hbb, z0, z1⟩ := hq
          rw [h1, Nat.zero_add] at hfd
          have hjN : j < N := by have := sl.lenm; omega
          have hjN' : (j : Int) < (N : Int) := by omega
          have hj0' : (0 : Int) ≤ (j : Int) := by omega
          subst hAe
          generalize rows[j] = q at *
          obtain ⟨qi, qa, qn, qc⟩ := q
          simp only at z0 z1
          have HO := hide (And.intro ho (And.intro hbr hbr.size))
          have HE := hide he
          have gA : SlR (wr.alloc (.cells #[.int .i64 qi, .slice qa qn qc] 37)) _ 2 (some ⟨wr.heap.size, 0, none⟩) 1 (cM ⟨qi, qa, qn, qc⟩) := slr_new _ _ rfl rfl
          have hfd2 := hfd
          clear gN sl sm sr hbw ho hms hbr he h1 h3 hj
          go_wp2_with fail
          refine hfd.mono ?_
          clear hfd
          rintro e w3 ⟨rfl, rfl⟩
          go_wp2_with fail
          refine hfd2.mono ?_
          clear hfd2
          rintro e w3 ⟨rfl, rfl⟩
          go_wp2_with (at_builtin; refine wpList_append_sl (size := 2) rfl _ _ 28 rfl w1.heap.size 37 i0 zM 32 Tryz.underlying28 hi hz0 hz1 hz2 rfl (by decide) _ Ps.length (Ps.flatMap cM) rfl (HO.out.1.alloc _) 1 1 (cM ⟨qi, qa, qn, qc⟩) rfl gA (Below.refl _ _) (fun u hu => oneM [⟨qi, qa, qn, qc⟩] u (by simpa using hu)) (by unfold maxLen; omega) (by omega) (by have := HO.out.2.2; simp; omega) ?_; intro v6 w7 ho6 hg6 hor6)
          go_roundw
          case rel =>
            refine ⟨k + 1, Ps ++ [⟨qi, qa, qn, qc⟩], by omega, by go_num, ?_, HN.out, (balloc HO.out.2.1 _).grown hg6 (by have := HO.out.2.2; simp; omega) (fun g e => (own_lt HO.out.1 g e).1)⟩
            rw [List.length_append, flatM_snoc]
            exact ho6
          case measure => simp [intOf]; omega
    · have hk20 : ¬ ((k : Int) + 1 ≤ 20) := by omega
      have HK := hide (show k = 20 by omega)
      have hmw : Mods wr Ps (rpM ms next 20) := by have := hms.to hbr; rw [HK.out] at this; exact this
      obtain ⟨Ap, cp, rfl, hp1, hp2, hp3⟩ := SlR.of_own ho
      have hcp : cp ≤ 9223372036854775807 := by simpa [maxLen] using hp2
      have HP := hide (And.intro hp1 hcp)
      have HW := hide hbw
      clear sl sm sr hbw ho hms hbr hlt hp1 hp2 hcp gN
      by_cases h1 : r.id < 1
      · have HR := hide (show rpOk ms next = false by
          unfold rpOk inB
          rw [show decide ((1 : Int) ≤ next.id) = false from decide_eq_false (by have := HI.out.1; omega)]
          simp)
        have h1b : decide (r.id < 1) = true := decide_eq_true h1
        clear hp3 hmw
        go_wp2_with fail
        go_ret2
        exact ⟨HW.out, .inl ⟨HR.out, rfl⟩⟩
      · by_cases h2 : 20 < r.id
        · have HR := hide (show rpOk ms next = false by
            unfold rpOk inB
            rw [show decide (next.id ≤ (20 : Int)) = false from decide_eq_false (by have := HI.out.1; omega)]
            simp)
          clear hp3 hmw
          go_wp2_with fail
          go_ret2
          exact ⟨HW.out, .inl ⟨HR.out, rfl⟩⟩
        · have HR := hide (show rpOk ms next = validB (rpM ms next 20) by
            unfold rpOk inB
            rw [HV.out, show decide ((1 : Int) ≤ next.id) = true from decide_eq_true (by have := HI.out.1; omega), show decide (next.id ≤ (20 : Int)) = true from decide_eq_true (by have := HI.out.1; omega)]
            rfl)
          have hc := c_rValid Ap Ps.length cp Ps (rpM ms next 20) wr (by omega) (hp3.to' (Below.refl _ _)) hmw
          have HF2 := hide (And.intro hp3 hmw)
          clear hp3 hmw
          cases hv2 : validB (rpM ms next 20) with
          | false =>
            rw [hv2] at hc
            have HV2 := hide hv2
            clear hv2
            go_wp2_with fail
            refine hc.mono ?_
            clear hc
            rintro e w9 ⟨rfl, hb9⟩
            go_wp2_with fail
            go_ret2
            exact ⟨bthen HW.out hb9, .inl ⟨by rw [HR.out, HV2.out], rfl⟩⟩
          | true =>
            rw [hv2] at hc
            have HV2 := hide hv2
            clear hv2
            go_wp2_with fail
            refine hc.mono ?_
            clear hc
            rintro e w9 ⟨rfl, hb9⟩
            go_wp2_with fail
            go_ret2
            exact ⟨bthen HW.out hb9, .inr ⟨by rw [HR.out, HV2.out], Ap, _, cp, Ps, rfl, HP.out.1, HP.out.2, HF2.out.1.to' hb9, HF2.out.2.to hb9⟩⟩
end Go.Proofs.YtncdombfhcfobaaGreat
/- Law: the reference's Replace is the package's. -/
namespace Go.Proofs.YtncdombfhcfobaaGreat
open Go.RowKit Go.Shelf
theorem asc_sameM {l k : List Mo} (hl : (l.map (·.id)).Pairwise (· < ·)) (hk : (k.map (·.id)).Pairwise (· < ·)) (h : ∀ x, x ∈ l ↔ x ∈ k) : l = k := by
  rw [List.pairwise_map] at hl hk
  exact ((List.perm_ext_iff_of_nodup (hl.imp (fun {a b} h e => by subst e; omega)) (hk.imp (fun {a b} h e => by subst e; omega))).2 h).eq_of_pairwise (fun _ _ _ _ h1 h2 => by omega) hl hk
theorem snoc_asc {l : List Mo} {m : Mo} (hl : (l.map (·.id)).Pairwise (· < ·)) (h : ∀ x ∈ l, x.id < m.id) : ((l ++ [m]).map (·.id)).Pairwise (· < ·) := by
  rw [List.map_append]
  refine List.pairwise_append.2 ⟨hl, by simp, fun a ha b hb => ?_⟩
  obtain ⟨x, hx, rfl⟩ := List.mem_map.1 ha
  simp only [List.map_cons, List.map_nil, List.mem_singleton] at hb
  rw [hb]
  exact h x hx
theorem rFold_inv (next : Mo) {ms : List Mo} (hp : (ms.map (·.id)).Pairwise (· < ·)) : ∀ k, k ≤ ms.length →
    ((rFold next (ms.take k)).2 = true ↔ ∃ x ∈ ms.take k, next.id ≤ x.id) ∧
    (∀ x, x ∈ (rFold next (ms.take k)).1 ↔ (x ∈ ms.take k ∧ x.id ≠ next.id) ∨ ((rFold next (ms.take k)).2 = true ∧ x = next)) ∧
    (((rFold next (ms.take k)).1).map (·.id)).Pairwise (· < ·)
  | 0, _ => by simp [rFold]
  | k + 1, hk => by
    obtain ⟨h1, h2, h3⟩ := rFold_inv next hp k (by omega)
    have hlt : ∀ x ∈ ms.take k, x.id < ms[k].id := by
      intro x hx
      obtain ⟨i, hi, rfl⟩ := List.mem_iff_getElem.1 hx
      rw [List.pairwise_map] at hp
      rw [List.length_take] at hi
      rw [List.getElem_take]
      exact List.pairwise_iff_getElem.1 hp i k (by omega) (by omega) (by omega)
    rw [rFold_snoc next ms k (by omega), List.take_succ_eq_append_getElem (show k < ms.length by omega)]
    generalize rFold next (ms.take k) = s at *
    obtain ⟨out, d⟩ := s
    simp only at h1 h2 h3
    generalize ms[k] = m at *
    by_cases hc : next.id ≤ m.id ∧ d = false
    · obtain ⟨hc1, rfl⟩ := hc
      have hno : ∀ x ∈ ms.take k, x.id < next.id := fun x hx => by
        rcases Int.lt_or_le x.id next.id with h | h
        · exact h
        · exact absurd (h1.2 ⟨x, hx, h⟩) (by simp)
      have hout : ∀ x ∈ out, x.id < next.id := fun x hx => by
        rcases (h2 x).1 hx with ⟨h, _⟩ | ⟨h, _⟩
        · exact hno x h
        · cases h
      rw [rStep_a hc1]
      by_cases he : m.id = next.id
      · rw [if_pos he]
        refine ⟨⟨fun _ => ⟨m, by simp, by omega⟩, fun _ => rfl⟩, fun x => ?_, snoc_asc h3 hout⟩
        simp only [List.mem_append, List.mem_singleton, h2 x, true_and]
        constructor
        · rintro ((⟨h, h'⟩ | ⟨h, _⟩) | rfl)
          · exact .inl ⟨.inl h, h'⟩
          · cases h
          · exact .inr rfl
        · rintro (⟨h | rfl, h'⟩ | rfl)
          · exact .inl (.inl ⟨h, h'⟩)
          · exact absurd he h'
          · exact .inr rfl
      · rw [if_neg he]
        refine ⟨⟨fun _ => ⟨m, by simp, by omega⟩, fun _ => rfl⟩, fun x => ?_, snoc_asc (snoc_asc h3 hout) (fun x hx => ?_)⟩
        · simp only [List.mem_append, List.mem_singleton, h2 x, true_and]
          constructor
          · rintro (((⟨h, h'⟩ | ⟨h, _⟩) | rfl) | rfl)
            · exact .inl ⟨.inl h, h'⟩
            · cases h
            · exact .inr rfl
            · exact .inl ⟨.inr rfl, he⟩
          · rintro (⟨h | rfl, h'⟩ | rfl)
            · exact .inl (.inl (.inl ⟨h, h'⟩))
            · exact .inr rfl
            · exact .inl (.inr rfl)
        · rcases List.mem_append.1 hx with h | h
          · have := hout x h; omega
          · rw [List.mem_singleton.1 h]; omega
    · rw [rStep_b hc]
      have hne : m.id ≠ next.id := fun he => by
        cases hd : d with
        | false => exact hc ⟨by omega, hd⟩
        | true =>
          obtain ⟨x, hx, h⟩ := h1.1 hd
          have := hlt x hx
          omega
      rw [if_neg hne]
      refine ⟨⟨fun h => ?_, fun ⟨x, hx, h⟩ => ?_⟩, fun x => ?_, snoc_asc h3 (fun x hx => ?_)⟩
      · obtain ⟨x, hx, h⟩ := h1.1 h
        exact ⟨x, List.mem_append_left _ hx, h⟩
      · rcases List.mem_append.1 hx with h' | h'
        · exact h1.2 ⟨x, h', h⟩
        · rw [List.mem_singleton.1 h'] at h
          cases hd : d with
          | false => exact absurd ⟨h, hd⟩ hc
          | true => rfl
      · simp only [List.mem_append, List.mem_singleton, h2 x]
        constructor
        · rintro ((⟨h, h'⟩ | ⟨h, h'⟩) | rfl)
          · exact .inl ⟨.inl h, h'⟩
          · exact .inr ⟨h, h'⟩
          · exact .inl ⟨.inr rfl, hne⟩
        · rintro (⟨h | rfl, h'⟩ | ⟨h, h'⟩)
          · exact .inl (.inl ⟨h, h'⟩)
          · exact .inr rfl
          · exact .inl (.inr ⟨h, h'⟩)
      · rcases (h2 x).1 hx with ⟨h, _⟩ | ⟨h, rfl⟩
        · exact hlt x h
        · obtain ⟨y, hy, h⟩ := h1.1 h
          have := hlt y hy
          omega
theorem replL_asc (next : Mo) {ms : List Mo} (hp : (ms.map (·.id)).Pairwise (· < ·)) : ((replL next ms).map (·.id)).Pairwise (· < ·) ∧ ∀ x, x ∈ replL next ms ↔ (x ∈ ms ∧ x.id ≠ next.id) ∨ x = next := by
  obtain ⟨h1, h2, h3⟩ := rFold_inv next hp ms.length (Nat.le_refl _)
  rw [List.take_length] at h1 h2 h3
  unfold replL
  cases hd : (rFold next ms).2 with
  | true =>
    rw [hd] at h2
    rw [if_pos rfl]
    exact ⟨h3, fun x => by rw [h2 x]; simp⟩
  | false =>
    rw [hd] at h1 h2
    rw [if_neg (by simp)]
    have hno : ∀ x ∈ ms, x.id < next.id := fun x hx => by
      rcases Int.lt_or_le x.id next.id with h | h
      · exact h
      · exact absurd (h1.2 ⟨x, hx, h⟩) (by simp)
    refine ⟨snoc_asc h3 (fun x hx => ?_), fun x => by rw [List.mem_append, h2 x]; simp⟩
    rcases (h2 x).1 hx with ⟨h, _⟩ | ⟨h, _⟩
    · exact hno x h
    · cases h
theorem rpM_asc (ms : List Mo) (next : Mo) : ∀ n, ((rpM ms next n).map (·.id)).Pairwise (· < ·) ∧
    (∀ x, x ∈ rpM ms next n ↔ (x = next ∧ 1 ≤ next.id ∧ next.id ≤ (n : Int)) ∨ (x.id ≠ next.id ∧ 1 ≤ x.id ∧ x.id ≤ (n : Int) ∧ findM ms x.id = some x))
  | 0 => ⟨List.Pairwise.nil, fun x => by
    simp only [rpM, List.not_mem_nil, false_iff]
    rintro (⟨_, h⟩ | ⟨_, h1, h2, _⟩) <;> omega⟩
  | n + 1 => by
    obtain ⟨h1, h2⟩ := rpM_asc ms next n
    have hlow : ∀ x ∈ rpM ms next n, x.id < (n : Int) + 1 := fun x hx => by
      rcases (h2 x).1 hx with ⟨rfl, h⟩ | ⟨_, h, h', _⟩ <;> omega
    rw [rpM]
    by_cases he : next.id = (n : Int) + 1
    · rw [if_pos he]
      refine ⟨snoc_asc h1 (by rw [he]; exact hlow), fun x => ?_⟩
      rw [List.mem_append, h2 x, List.mem_singleton]
      constructor
      · rintro ((⟨h, h'⟩ | ⟨h, h', h'', h3⟩) | rfl)
        · exact .inl ⟨h, by omega⟩
        · exact .inr ⟨h, h', by omega, h3⟩
        · exact .inl ⟨rfl, by omega⟩
      · rintro (⟨h, h'⟩ | ⟨h, h', h'', h3⟩)
        · exact .inr h
        · exact .inl (.inr ⟨h, h', by omega, h3⟩)
    · rw [if_neg he]
      cases hf : findM ms ((n : Int) + 1) with
      | none =>
        refine ⟨h1, fun x => ?_⟩
        rw [h2 x]
        constructor
        · rintro (⟨h, h'⟩ | ⟨h, h', h'', h3⟩)
          · exact .inl ⟨h, by omega⟩
          · exact .inr ⟨h, h', by omega, h3⟩
        · rintro (⟨h, h'⟩ | ⟨h, h', h'', h3⟩)
          · exact .inl ⟨h, by omega⟩
          · refine .inr ⟨h, h', ?_, h3⟩
            by_cases e : x.id = (n : Int) + 1
            · rw [e, hf] at h3; cases h3
            · omega
      | some m =>
        obtain ⟨_, hmid⟩ := findM_mem hf
        refine ⟨snoc_asc h1 (by rw [hmid]; exact hlow), fun x => ?_⟩
        rw [List.mem_append, h2 x, List.mem_singleton]
        constructor
        · rintro ((⟨h, h'⟩ | ⟨h, h', h'', h3⟩) | rfl)
          · exact .inl ⟨h, by omega⟩
          · exact .inr ⟨h, h', by omega, h3⟩
          · exact .inr ⟨by omega, by omega, by omega, by rw [hmid]; exact hf⟩
        · rintro (⟨h, h'⟩ | ⟨h, h', h'', h3⟩)
          · exact .inl (.inl ⟨h, by omega⟩)
          · by_cases e : x.id = (n : Int) + 1
            · rw [e, hf] at h3
              exact .inr (Option.some.inj h3).symm
            · exact .inl (.inr ⟨h, h', by omega, h3⟩)
theorem rp_same {ms : List Mo} (hv : validB ms = true) {next : Mo} (h : inB next.id 1 20 = true) : rpM ms next 20 = replL next ms := by
  obtain ⟨-, hp, hall, -⟩ := valid_parts hv
  obtain ⟨r1, r2⟩ := replL_asc next hp
  obtain ⟨q1, q2⟩ := rpM_asc ms next 20
  simp only [inB, Bool.and_eq_true, decide_eq_true_eq] at h
  refine asc_sameM q1 r1 (fun x => ?_)
  rw [q2 x, r2 x]
  constructor
  · rintro (⟨h, h'⟩ | ⟨h, h', h'', h3⟩)
    · exact .inr h
    · exact .inl ⟨(findM_mem h3).1, h⟩
  · rintro (⟨h1, h2⟩ | rfl)
    · have := (hall x h1).1
      exact .inr ⟨h2, this.1, by omega, findM_of (hp.imp (fun {a b} h e => by subst e; omega)) h1⟩
    · exact .inl ⟨rfl, h.1, by omega⟩
theorem rp_bad {ms : List Mo} (hv : validB ms = true) {next : Mo} (h : inB next.id 1 20 = false) : validB (replL next ms) = false := by
  cases hv2 : validB (replL next ms) with
  | false => rfl
  | true =>
    obtain ⟨-, hp, -, -⟩ := valid_parts hv
    obtain ⟨-, -, hall, -⟩ := valid_parts hv2
    have := (hall next (((replL_asc next hp).2 next).2 (.inr rfl))).1
    simp only [inB, Bool.and_eq_false_iff, decide_eq_false_iff_not] at h
    omega
theorem rpOk_eq (ms : List Mo) (next : Mo) : rpOk ms next = (validB ms && validB (replL next ms)) := by
  unfold rpOk
  cases hv : validB ms with
  | false => rfl
  | true =>
    cases hb : inB next.id 1 20 with
    | false => rw [rp_bad hv hb]; rfl
    | true => rw [rp_same hv hb]; rfl
theorem rp_eq {ms : List Mo} {next : Mo} (h : rpOk ms next = true) : rpM ms next 20 = replL next ms := by
  unfold rpOk at h
  simp only [Bool.and_eq_true] at h
  exact rp_same h.1 h.2.1
end Go.Proofs.YtncdombfhcfobaaGreat
/- Contract: the reference's Merge. -/
namespace Go.Proofs.YtncdombfhcfobaaGreat
open Go.RowKit Go.Shelf
def rgS (a b : List It) (n : Nat) : Bool := ((getI a n).isSome == (getI b n).isSome) && (!(getI a n).isSome || decide (atI' a n = atI' b n))
def rgF (z o t : List It) (n : Nat) : Option It := if (rgS z o n && (getI t n).isSome) = true then some (atI' t n) else if (!rgS z o n && (getI o n).isSome) = true then some (atI' o n) else none
def rgP (z o t : List It) (n : Nat) : Bool := !rgS z o n && (!rgS z t n && !rgS o t n)
theorem own_neB {W : World} {b n k g : Nat} {e t : TypeId} {v : Value} {xs cs : List Value} (h : W.ownsRow b e k v n xs) (hb : Blk W g t cs) (he : e ≠ t) : v.ownBlock ≠ some g := by
  intro hh
  rcases h.2 with ⟨rfl, _⟩ | ⟨g', _, cur', rfl, _, p3, _⟩
  · cases hh
  · simp only [Value.ownBlock, Option.some.injEq] at hh
    subst hh
    have q3 := hb
    unfold Blk at q3
    rw [p3] at q3
    simp only [Option.some.injEq, Obj.cells.injEq] at q3
    exact he q3.2.1
def RMergePost (z o t : Mo) (w : World) (e : Ending) (w' : World) : Prop :=
  Below w.heap.size w w' ∧ ((mergeB z o t = false ∧ e = .returned (.tuple #[.agg #[.int .i64 0, .slice none 0 0], .slice none 0 0, .int .i64 140])) ∨
    (mergeB z o t = true ∧
      (((inB z.id 1 20 && itsOk (colI (rgF z.items o.items t.items) 100)) = false ∧ e = .returned (.tuple #[.agg #[.int .i64 0, .slice none 0 0], .slice none 0 0, .int .i64 140])) ∨
        ((inB z.id 1 20 && itsOk (colI (rgF z.items o.items t.items) 100)) = true ∧ ∃ A n c v, e = .returned (.tuple #[.agg #[.int .i64 z.id, .slice A n c], v, .int .i64 0]) ∧ n ≤ c ∧ c ≤ 9223372036854775807 ∧ SlR w' w'.heap.size 6 A n ((colI (rgF z.items o.items t.items) 100).flatMap cI) ∧
          w'.ownsRow w.heap.size 3 1 v (colN (rgP z.items o.items t.items) 100).length ((colN (rgP z.items o.items t.items) 100).flatMap cN)))))
set_option linter.unusedSimpArgs false in
set_option maxRecDepth 100000 in
set_option maxHeartbeats 8000000 in
theorem c_rMerge (rz ro rt : MR) (z o t : Mo) (w : World) (hez : rz.id = z.id) (heo : ro.id = o.id) (het : rt.id = t.id) (hnz : rz.n ≤ 9223372036854775807) (hno : ro.n ≤ 9223372036854775807) (hnt : rt.n ≤ 9223372036854775807)
    (hsz : SlR w w.heap.size 6 rz.a rz.n (z.items.flatMap cI)) (hso : SlR w w.heap.size 6 ro.a ro.n (o.items.flatMap cI)) (hst : SlR w w.heap.size 6 rt.a rt.n (t.items.flatMap cI)) :
    Calls Tryz.prog 36 #[mrV rz, mrV ro, mrV rt] w (RMergePost z o t w) := by
  obtain ⟨i0, hi, hz0, hz1, hz2⟩ := info_parts Tryz.infoItem
  obtain ⟨i1, hi1, hy0, hy1, hy2⟩ := info_parts Tryz.infoInt
  have hb0 := balloc (balloc (balloc (balloc (Below.refl w.heap.size w) (.cells #[.int .i64 rz.id, .slice rz.a rz.n rz.c] 37)) (.cells #[.int .i64 ro.id, .slice ro.a ro.n ro.c] 37)) (.cells #[.int .i64 rt.id, .slice rt.a rt.n rt.c] 37)) (.cells #[.int .i64 0, .slice none 0 0] 37)
  obtain ⟨w0, hw0⟩ : ∃ w0, (((w.alloc (.cells #[.int .i64 rz.id, .slice rz.a rz.n rz.c] 37)).alloc (.cells #[.int .i64 ro.id, .slice ro.a ro.n ro.c] 37)).alloc (.cells #[.int .i64 rt.id, .slice rt.a rt.n rt.c] 37)).alloc (.cells #[.int .i64 0, .slice none 0 0] 37) = w0 := ⟨_, rfl⟩
  have gZ : Blk w0 w.heap.size 37 (cM rz) := by rw [← hw0]; exact (((Blk.new w 37 (cM rz)).alloc _).alloc _).alloc _
  have gO : Blk w0 (w.heap.size + 1) 37 (cM ro) := by
    rw [← hw0]
    have := Blk.new (w.alloc (.cells #[.int .i64 rz.id, .slice rz.a rz.n rz.c] 37)) 37 (cM ro)
    rw [show (w.alloc (.cells #[.int .i64 rz.id, .slice rz.a rz.n rz.c] 37)).heap.size = w.heap.size + 1 from by simp] at this
    exact (this.alloc _).alloc _
  have gT : Blk w0 (w.heap.size + 1 + 1) 37 (cM rt) := by
    rw [← hw0]
    have := Blk.new ((w.alloc (.cells #[.int .i64 rz.id, .slice rz.a rz.n rz.c] 37)).alloc (.cells #[.int .i64 ro.id, .slice ro.a ro.n ro.c] 37)) 37 (cM rt)
    rw [show ((w.alloc (.cells #[.int .i64 rz.id, .slice rz.a rz.n rz.c] 37)).alloc (.cells #[.int .i64 ro.id, .slice ro.a ro.n ro.c] 37)).heap.size = w.heap.size + 1 + 1 from by simp] at this
    exact this.alloc _
  have gR : Blk w0 (w.heap.size + 1 + 1 + 1) 37 [.int .i64 0, .slice none 0 0] := by
    rw [← hw0]
    have := Blk.new (((w.alloc (.cells #[.int .i64 rz.id, .slice rz.a rz.n rz.c] 37)).alloc (.cells #[.int .i64 ro.id, .slice ro.a ro.n ro.c] 37)).alloc (.cells #[.int .i64 rt.id, .slice rt.a rt.n rt.c] 37)) 37 [.int .i64 0, .slice none 0 0]
    rw [show (((w.alloc (.cells #[.int .i64 rz.id, .slice rz.a rz.n rz.c] 37)).alloc (.cells #[.int .i64 ro.id, .slice ro.a ro.n ro.c] 37)).alloc (.cells #[.int .i64 rt.id, .slice rt.a rt.n rt.c] 37)).heap.size = w.heap.size + 1 + 1 + 1 from by simp] at this
    exact this
  rw [hw0] at hb0
  have HW0 := hide hw0
  have hsz0 := hsz.to' hb0
  have hso0 := hso.to' hb0
  have hst0 := hst.to' hb0
  have HID := hide (And.intro hez (And.intro heo het))
  have HSA := hide (And.intro hsz0 (And.intro hso0 hst0))
  have HG := hide (And.intro gZ (And.intro gO (And.intro gT gR)))
  have hzR := gR.lt
  clear hsz hso hst hw0 hez heo het hsz0 hso0 hst0
  obtain ⟨z0, z1⟩ := gZ.two
  obtain ⟨o0, o1⟩ := gO.two
  obtain ⟨t0, t1⟩ := gT.two
  obtain ⟨r0, r1, r2, r3⟩ := gR.all2
  clear gZ gO gT gR
  unfold mrV
  go_enter Tryz.func36, Tryz.ntmps36
  go_wp2_with fail
  rw [HW0.out]
  refine (c_rProper rz z.items _ hnz HSA.out.1).mono ?_
  rintro e w1 ⟨rfl, hb1⟩
  clear z0 z1 o0 o1 t0 t1 r0 r1 r2 r3
  obtain ⟨z0, z1⟩ := (HG.out.1.below hb1 HG.out.1.lt).two
  obtain ⟨o0, o1⟩ := (HG.out.2.1.below hb1 HG.out.2.1.lt).two
  obtain ⟨t0, t1⟩ := (HG.out.2.2.1.below hb1 HG.out.2.2.1.lt).two
  obtain ⟨r0, r1, r2, r3⟩ := (HG.out.2.2.2.below hb1 HG.out.2.2.2.lt).all2
  have hzw1 := (HG.out.2.2.2.below hb1 HG.out.2.2.2.lt).lt
  cases hP : (inB rz.id 1 20 && itsOk z.items) with
  | false =>
    have HE := hide (show mergeB z o t = false by unfold mergeB; rw [← HID.out.1, hP]; rfl)
    go_wp2
    exact bodyPost_ret (v := .tuple #[.agg #[.int .i64 0, .slice none 0 0], .slice none 0 0, .int .i64 140]) (by simp [results, Tryz.results36, go_sem, r0, r1]) rfl ⟨((bthen hb0 hb1).setCell (by simp; omega) _).setCell (by simp; omega) _, .inl ⟨HE.out, rfl⟩⟩
  | true =>
    have HP1 := hide hP
    clear hP
    go_wp2_with fail
    refine (c_rProper ro o.items _ hno (HSA.out.2.1.to' hb1)).mono ?_
    rintro e w2 ⟨rfl, hb2⟩
    have hb12 := bthen hb1 hb2
    clear z0 z1 o0 o1 t0 t1 r0 r1 r2 r3
    obtain ⟨z0, z1⟩ := (HG.out.1.below hb12 HG.out.1.lt).two
    obtain ⟨o0, o1⟩ := (HG.out.2.1.below hb12 HG.out.2.1.lt).two
    obtain ⟨t0, t1⟩ := (HG.out.2.2.1.below hb12 HG.out.2.2.1.lt).two
    obtain ⟨r0, r1, r2, r3⟩ := (HG.out.2.2.2.below hb12 HG.out.2.2.2.lt).all2
    have hzw2 := (HG.out.2.2.2.below hb12 HG.out.2.2.2.lt).lt
    clear hb1 hb2
    cases hP : (inB ro.id 1 20 && itsOk o.items) with
    | false =>
      have HE := hide (show mergeB z o t = false by unfold mergeB; rw [← HID.out.2.1, hP]; simp)
      go_wp2
      exact bodyPost_ret (v := .tuple #[.agg #[.int .i64 0, .slice none 0 0], .slice none 0 0, .int .i64 140]) (by simp [results, Tryz.results36, go_sem, r0, r1]) rfl ⟨((bthen hb0 hb12).setCell (by simp; omega) _).setCell (by simp; omega) _, .inl ⟨HE.out, rfl⟩⟩
    | true =>
      have HP2 := hide hP
      clear hP
      go_wp2_with fail
      refine (c_rProper rt t.items _ hnt (HSA.out.2.2.to' hb12)).mono ?_
      rintro e w3 ⟨rfl, hb3⟩
      have hb13 := bthen hb12 hb3
      clear z0 z1 o0 o1 t0 t1 r0 r1 r2 r3
      obtain ⟨z0, z1⟩ := (HG.out.1.below hb13 HG.out.1.lt).two
      obtain ⟨o0, o1⟩ := (HG.out.2.1.below hb13 HG.out.2.1.lt).two
      obtain ⟨t0, t1⟩ := (HG.out.2.2.1.below hb13 HG.out.2.2.1.lt).two
      obtain ⟨r0, r1, r2, r3⟩ := (HG.out.2.2.2.below hb13 HG.out.2.2.2.lt).all2
      have hzw3 := (HG.out.2.2.2.below hb13 HG.out.2.2.2.lt).lt
      clear hb12 hb3
      cases hP : (inB rt.id 1 20 && itsOk t.items) with
      | false =>
        have HE := hide (show mergeB z o t = false by unfold mergeB; rw [← HID.out.2.2, hP]; simp)
        go_wp2
        exact bodyPost_ret (v := .tuple #[.agg #[.int .i64 0, .slice none 0 0], .slice none 0 0, .int .i64 140]) (by simp [results, Tryz.results36, go_sem, r0, r1]) rfl ⟨((bthen hb0 hb13).setCell (by simp; omega) _).setCell (by simp; omega) _, .inl ⟨HE.out, rfl⟩⟩
      | true =>
        have HP3 := hide hP
        clear hP
        by_cases he1 : ro.id = rz.id
        · have hd1 : (ro.id != rz.id) = false := by simp [he1]
          have HE1 := hide he1
          clear he1
          by_cases he2 : rt.id = rz.id
          · have hd2 : (rt.id != rz.id) = false := by simp [he2]
            have HE2 := hide he2
            clear he2
            have HB := hide (show mergeB z o t = true by
              unfold mergeB
              rw [← HID.out.1, ← HID.out.2.1, ← HID.out.2.2, HP1.out, HP2.out, HP3.out, HE1.out, HE2.out]; simp)
            have hb03 := bthen hb0 hb13
            have hs3 := HSA.out
            have hsz3 := hs3.1.to' hb13
            have hso3 := hs3.2.1.to' hb13
            have hst3 := hs3.2.2.to' hb13
            have HSB := hide (And.intro hsz3 (And.intro hso3 hst3))
            clear hs3 hsz3 hso3 hst3
            go_wp2_with fail
            have hb3B := balloc (Below.refl w3.heap.size w3) (.cells #[.int .i64 rz.id, .slice none 0 0] 37)
            have gM0 : Blk (w3.alloc (.cells #[.int .i64 rz.id, .slice none 0 0] 37)) w3.heap.size 37 [.int .i64 rz.id, .slice none 0 0] := Blk.new w3 37 [.int .i64 rz.id, .slice none 0 0]
            have HM : Hid (∀ W : World, Below w3.heap.size w3 W → ((W.cell? ⟨w.heap.size, 1, none⟩ = some (.slice rz.a rz.n rz.c) ∧ w.heap.size < W.heap.size) ∧ (W.cell? ⟨w.heap.size + 1, 1, none⟩ = some (.slice ro.a ro.n ro.c) ∧ w.heap.size + 1 < W.heap.size) ∧ (W.cell? ⟨w.heap.size + 1 + 1, 1, none⟩ = some (.slice rt.a rt.n rt.c) ∧ w.heap.size + 1 + 1 < W.heap.size)) ∧
                (SlR W W.heap.size 6 rz.a rz.n (z.items.flatMap cI) ∧ SlR W W.heap.size 6 ro.a ro.n (o.items.flatMap cI) ∧ SlR W W.heap.size 6 rt.a rt.n (t.items.flatMap cI)) ∧ Blk W (w.heap.size + 1 + 1 + 1) 37 [.int .i64 0, .slice none 0 0] ∧ Below w.heap.size w W) := hide fun W hW => by
              have hz := HG.out.1.below (bthen hb13 hW) HG.out.1.lt
              have ho := HG.out.2.1.below (bthen hb13 hW) HG.out.2.1.lt
              have ht := HG.out.2.2.1.below (bthen hb13 hW) HG.out.2.2.1.lt
              exact ⟨⟨⟨hz.two.2, hz.lt⟩, ⟨ho.two.2, ho.lt⟩, ⟨ht.two.2, ht.lt⟩⟩, ⟨HSB.out.1.to' hW, HSB.out.2.1.to' hW, HSB.out.2.2.to' hW⟩, HG.out.2.2.2.below (bthen hb13 hW) HG.out.2.2.2.lt, bthen hb03 hW⟩
            have HGl := hide (show w.heap.size + 1 + 1 + 1 < w3.heap.size from hzw3)
            clear z0 z1 o0 o1 t0 t1 r0 r1 r2 r3 hb03 hb13
            go_loopw [10, 11] (fun u jv wr => ∃ (k : Nat) (v : Value), k ≤ 100 ∧ jv = .int .i64 k ∧ Blk wr w3.heap.size 37 [.int .i64 rz.id, v] ∧ wr.ownsRow (w3.heap.size + 1) 27 6 v (colI (rgF z.items o.items t.items) k).length ((colI (rgF z.items o.items t.items) k).flatMap cI) ∧ wr.ownsRow (w3.heap.size + 1) 3 1 u (colN (rgP z.items o.items t.items) k).length ((colN (rgP z.items o.items t.items) k).flatMap cN) ∧ Below w3.heap.size w3 wr) (fun _ jv _ => 100 - (intOf jv).toNat)
            case atStart => exact ⟨0, .slice none 0 0, by omega, rfl, gM0, World.ownsRow_nil _ _ _ _, World.ownsRow_nil _ _ _ _, hb3B⟩
            case round =>
              obtain ⟨k, v, hk, rfl, gM, ho, hu, hbr⟩ := hrel
              obtain ⟨Av, cv, rfl, -, -, -⟩ := SlR.of_own ho
              obtain ⟨Au, cu, rfl, -, -, -⟩ := SlR.of_own hu
              clear gM0 hb3B
              by_cases hlt : k < 100
              · have HF : Hid (rgF z.items o.items t.items k = if (rgS z.items o.items k && (getI t.items k).isSome) = true then some (atI' t.items k) else if (!rgS z.items o.items k && (getI o.items k).isSome) = true then some (atI' o.items k) else none) := hide rfl
                have HP : Hid (rgP z.items o.items t.items k = (!rgS z.items o.items k && (!rgS z.items t.items k && !rgS o.items t.items k))) := hide rfl
                have HS1 : Hid (rgS z.items o.items k = (((getI z.items k).isSome == (getI o.items k).isSome) && (!(getI z.items k).isSome || decide (atI' z.items k = atI' o.items k)))) := hide rfl
                have HS2 : Hid (rgS z.items t.items k = (((getI z.items k).isSome == (getI t.items k).isSome) && (!(getI z.items k).isSome || decide (atI' z.items k = atI' t.items k)))) := hide rfl
                have HS3 : Hid (rgS o.items t.items k = (((getI o.items k).isSome == (getI t.items k).isSome) && (!(getI o.items k).isSome || decide (atI' o.items k = atI' t.items k)))) := hide rfl
                have HO := hide (And.intro gM (And.intro ho (And.intro hu hbr)))
                have hkl : (k : Int) ≤ 99 := by omega
                clear gM ho hu hbr
                obtain ⟨⟨⟨z1, lz⟩, ⟨o1, lo⟩, ⟨t1, lt⟩⟩, ⟨sz, so, st⟩, -, -⟩ := HM.out wr HO.out.2.2.2
                have hit := c_rItemY rz.a rz.n rz.c z.items k wr hnz sz
                clear sz so st
                go_wp2_with fail
                refine hit.mono ?_
                clear hit z1 o1 t1 lz lo lt
                rintro e w10 ⟨rfl, hbc⟩
                generalize atI' z.items (k : Int) = X at *
                generalize (getI z.items (k : Int)).isSome = bX at *
                have hbd := bthen hbc (balloc (Below.refl w10.heap.size w10) (.cells #[.int .i64 X.id, .int .i64 X.kind, .int .i64 X.x, .int .i64 X.y, .string X.text, .int .i64 X.mod] 27))
                have gX : Blk (w10.alloc (.cells #[.int .i64 X.id, .int .i64 X.kind, .int .i64 X.x, .int .i64 X.y, .string X.text, .int .i64 X.mod] 27)) w10.heap.size 27 (cI X) := Blk.new w10 27 (cI X)
                have HO' := hide (And.intro (HO.out.1.below hbd HO.out.1.lt) (And.intro (own_bel HO.out.2.1 hbd) (And.intro (own_bel HO.out.2.2.1 hbd) (bthen HO.out.2.2.2 hbd))))
                have HGX := hide gX
                clear hbc hbd gX HO
                have HO := HO'
                clear HO'
                go_upto_region 9 with (fail)
                generalize w10.alloc (.cells #[.int .i64 X.id, .int .i64 X.kind, .int .i64 X.x, .int .i64 X.y, .string X.text, .int .i64 X.mod] 27) = w11 at *
                generalize w10.heap.size = qX at *
                obtain ⟨⟨⟨z1, lz⟩, ⟨o1, lo⟩, ⟨t1, lt⟩⟩, ⟨sz, so, st⟩, -, -⟩ := HM.out w11 HO.out.2.2.2
                have hit := c_rItemY ro.a ro.n ro.c o.items k w11 hno so
                clear sz so st
                go_wp2_with fail
                refine hit.mono ?_
                clear hit z1 o1 t1 lz lo lt
                rintro e w12 ⟨rfl, hbc⟩
                generalize atI' o.items (k : Int) = Y at *
                generalize (getI o.items (k : Int)).isSome = bY at *
                have hbd := bthen hbc (balloc (Below.refl w12.heap.size w12) (.cells #[.int .i64 Y.id, .int .i64 Y.kind, .int .i64 Y.x, .int .i64 Y.y, .string Y.text, .int .i64 Y.mod] 27))
                have gY : Blk (w12.alloc (.cells #[.int .i64 Y.id, .int .i64 Y.kind, .int .i64 Y.x, .int .i64 Y.y, .string Y.text, .int .i64 Y.mod] 27)) w12.heap.size 27 (cI Y) := Blk.new w12 27 (cI Y)
                have HO' := hide (And.intro (HO.out.1.below hbd HO.out.1.lt) (And.intro (own_bel HO.out.2.1 hbd) (And.intro (own_bel HO.out.2.2.1 hbd) (bthen HO.out.2.2.2 hbd))))
                have HGY := hide gY
                have HGX' := hide (HGX.out.below hbd HGX.out.lt)
                clear hbc hbd gY HO
                clear HGX
                have HGX := HGX'
                clear HGX'
                have HO := HO'
                clear HO'
                go_upto_region 10 with (fail)
                generalize w12.alloc (.cells #[.int .i64 Y.id, .int .i64 Y.kind, .int .i64 Y.x, .int .i64 Y.y, .string Y.text, .int .i64 Y.mod] 27) = w13 at *
                generalize w12.heap.size = qY at *
                obtain ⟨⟨⟨z1, lz⟩, ⟨o1, lo⟩, ⟨t1, lt⟩⟩, ⟨sz, so, st⟩, -, -⟩ := HM.out w13 HO.out.2.2.2
                have hit := c_rItemY rt.a rt.n rt.c t.items k w13 hnt st
                clear sz so st
                go_wp2_with fail
                refine hit.mono ?_
                clear hit z1 o1 t1 lz lo lt
                rintro e w14 ⟨rfl, hbc⟩
                generalize atI' t.items (k : Int) = Z at *
                generalize (getI t.items (k : Int)).isSome = bZ at *
                have hbd := bthen hbc (balloc (Below.refl w14.heap.size w14) (.cells #[.int .i64 Z.id, .int .i64 Z.kind, .int .i64 Z.x, .int .i64 Z.y, .string Z.text, .int .i64 Z.mod] 27))
                have gZ : Blk (w14.alloc (.cells #[.int .i64 Z.id, .int .i64 Z.kind, .int .i64 Z.x, .int .i64 Z.y, .string Z.text, .int .i64 Z.mod] 27)) w14.heap.size 27 (cI Z) := Blk.new w14 27 (cI Z)
                have HO' := hide (And.intro (HO.out.1.below hbd HO.out.1.lt) (And.intro (own_bel HO.out.2.1 hbd) (And.intro (own_bel HO.out.2.2.1 hbd) (bthen HO.out.2.2.2 hbd))))
                have HGZ := hide gZ
                have HGX' := hide (HGX.out.below hbd HGX.out.lt)
                have HGY' := hide (HGY.out.below hbd HGY.out.lt)
                clear hbc hbd gZ HO
                clear HGX
                have HGX := HGX'
                clear HGX'
                clear HGY
                have HGY := HGY'
                clear HGY'
                have HO := HO'
                clear HO'
                go_upto_region 11 with (fail)
                generalize w14.alloc (.cells #[.int .i64 Z.id, .int .i64 Z.kind, .int .i64 Z.x, .int .i64 Z.y, .string Z.text, .int .i64 Z.mod] 27) = w15 at *
                generalize w14.heap.size = qZ at *
                go_cut [18] from 77 to 88 (fun u wx => u = .bool ((bX == bY) && (!bX || decide (X = Y))) ∧ w15 = wx)
                case first =>
                  have hn1 := fun w => eqlIt w X Y
                  obtain ⟨x0, x1, x2, x3, x4, x5⟩ := HGX.out.allI
                  obtain ⟨y0, y1, y2, y3, y4, y5⟩ := HGY.out.allI
                  have lx := HGX.out.lt
                  have ly := HGY.out.lt
                  cases bX <;> cases bY <;> (go_wp2_with fail; go_meet; exact ⟨rfl, rfl⟩)
                case rest =>
                  obtain ⟨rfl, rfl⟩ := hcut
                  go_upto_region 12 with (fail)
                  go_cut [19] from 89 to 100 (fun u wx => u = .bool ((bX == bZ) && (!bX || decide (X = Z))) ∧ w15 = wx)
                  case first =>
                    have hn1 := fun w => eqlIt w X Z
                    obtain ⟨x0, x1, x2, x3, x4, x5⟩ := HGX.out.allI
                    obtain ⟨y0, y1, y2, y3, y4, y5⟩ := HGZ.out.allI
                    have lx := HGX.out.lt
                    have ly := HGZ.out.lt
                    cases bX <;> cases bZ <;> (go_wp2_with fail; go_meet; exact ⟨rfl, rfl⟩)
                  case rest =>
                    obtain ⟨rfl, rfl⟩ := hcut
                    go_upto_region 13 with (fail)
                    go_cut [20] from 101 to 112 (fun u wx => u = .bool ((bY == bZ) && (!bY || decide (Y = Z))) ∧ w15 = wx)
                    case first =>
                      have hn1 := fun w => eqlIt w Y Z
                      obtain ⟨x0, x1, x2, x3, x4, x5⟩ := HGY.out.allI
                      obtain ⟨y0, y1, y2, y3, y4, y5⟩ := HGZ.out.allI
                      have lx := HGY.out.lt
                      have ly := HGZ.out.lt
                      cases bY <;> cases bZ <;> (go_wp2_with fail; go_meet; exact ⟨rfl, rfl⟩)
                    case rest =>
                      obtain ⟨rfl, rfl⟩ := hcut
                      go_upto_region 14 with (fail)
                      generalize ((bX == bY) && (!bX || decide (X = Y))) = f1 at *
                      generalize ((bX == bZ) && (!bX || decide (X = Z))) = f2 at *
                      generalize ((bY == bZ) && (!bY || decide (Y = Z))) = f3 at *
                      have hl1 := colI_len (rgF z.items o.items t.items) k
                      have hl2 := colN_len (rgP z.items o.items t.items) k
                      cases f1
                      · cases f2
                        · cases f3
                          · have HP1 := hide (colN_true (p := rgP z.items o.items t.items) (n := k) (by rw [HP.out, HS1.out, HS2.out, HS3.out]; simp))
                            generalize colN (rgP z.items o.items t.items) k = R at *
                            have HSz := hide (show w3.heap.size + 1 ≤ w15.heap.size from HO.out.1.lt)
                            have gA : SlR (w15.alloc (.cells (cN (k : Int)).toArray 3)) _ 1 (some ⟨w15.heap.size, 0, none⟩) 1 (cN (k : Int)) := slr_new _ _ rfl rfl
                            go_upto_region 16 with (at_builtin; refine wpList_append_sl (size := 1) rfl _ _ 30 rfl (w3.heap.size + 1) 3 i1 (.int .i64 0) 8 Tryz.underlying30 hi1 hy0 hy1 hy2 rfl (by decide) (.slice Au R.length cu) R.length (R.flatMap cN) rfl (HO.out.2.2.1.alloc _) 1 1 (cN (k : Int)) rfl gA (Below.refl _ _) (fun u hu => oneN [(k : Int)] u (by simpa using hu)) (by unfold maxLen; omega) (by omega) (by have := HSz.out; simp; omega) ?_; intro v8 w8 ho8 hg8 hor8)
                            have HO8 := hide (And.intro ((HO.out.1.alloc (.cells (cN (k : Int)).toArray 3)).grown hg8 (own_neB (HO.out.2.2.1.alloc (.cells (cN (k : Int)).toArray 3)) (HO.out.1.alloc (.cells (cN (k : Int)).toArray 3)) (by decide))) (And.intro (own_two (HO.out.2.1.alloc (.cells (cN (k : Int)).toArray 3)) (HO.out.2.2.1.alloc (.cells (cN (k : Int)).toArray 3)) (by decide) hg8) (And.intro ho8 ((balloc HO.out.2.2.2 (.cells (cN (k : Int)).toArray 3)).grown hg8 (by have := HSz.out; simp; omega) (fun g e => Nat.le_of_succ_le (own_lt HO.out.2.2.1 g e).1)))))
                            have HGY8 := hide ((HGY.out.alloc (.cells (cN (k : Int)).toArray 3)).grown hg8 (own_neB (HO.out.2.2.1.alloc (.cells (cN (k : Int)).toArray 3)) (HGY.out.alloc (.cells (cN (k : Int)).toArray 3)) (by decide)))
                            clear ho8 hg8 hor8 gA HO HGY HGX HGZ HSz
                            have HO := HO8
                            have HGY := HGY8
                            clear HO8 HGY8
                            cases bY
                            · have HF1 := hide (colI_none (f := rgF z.items o.items t.items) (n := k) (by rw [HF.out, HS1.out]; simp))
                              generalize colI (rgF z.items o.items t.items) k = P at *
                              obtain ⟨q0, q1⟩ := HO.out.1.two
                              have lM := HO.out.1.lt
                              go_wp2_with fail
                              go_roundw
                              case rel => exact ⟨k + 1, _, by omega, by go_num, HO.out.1, by rw [HF1.out]; exact HO.out.2.1, by rw [HP1.out, List.length_append, flatN_snoc]; exact HO.out.2.2.1, HO.out.2.2.2⟩
                              case measure => simp [intOf]; omega
                            · have HF1 := hide (colI_some (f := rgF z.items o.items t.items) (n := k) (x := Y) (by rw [HF.out, HS1.out]; simp))
                              generalize colI (rgF z.items o.items t.items) k = P at *
                              obtain ⟨q0, q1⟩ := HO.out.1.two
                              have lM := HO.out.1.lt
                              obtain ⟨y0, y1, y2, y3, y4, y5⟩ := HGY.out.allI
                              have ly := HGY.out.lt
                              have HSz := hide (show w3.heap.size + 1 ≤ w8.heap.size from HO.out.1.lt)
                              have gA : SlR (w8.alloc (.cells (cI Y).toArray 27)) _ 6 (some ⟨w8.heap.size, 0, none⟩) 1 (cI Y) := slr_new _ _ rfl rfl
                              go_wp2_with (at_builtin; refine wpList_append_sl (size := 6) rfl _ _ 29 rfl (w3.heap.size + 1) 27 i0 zV 56 Tryz.underlying29 hi hz0 hz1 hz2 rfl (by decide) (.slice Av P.length cv) P.length (P.flatMap cI) rfl (HO.out.2.1.alloc _) 1 1 (cI Y) rfl gA (Below.refl _ _) (fun u hu => oneI [Y] u (by simpa using hu)) (by unfold maxLen; omega) (by omega) (by have := HSz.out; simp; omega) ?_; intro v6 w7 ho6 hg6 hor6; obtain ⟨A6, c6, rfl, -, -, -⟩ := SlR.of_own ho6; have gM7 := (HO.out.1.alloc (.cells (cI Y).toArray 27)).grown hg6 (own_neB (HO.out.2.1.alloc (.cells (cI Y).toArray 27)) (HO.out.1.alloc (.cells (cI Y).toArray 27)) (by decide)); obtain ⟨m0, m1⟩ := gM7.two; have lM7 := gM7.lt; have fM7 := gM7.free 1)
                              go_roundw
                              case rel =>
                                refine ⟨k + 1, _, by omega, by go_num, gM7.set 1 _, ?_, ?_, bset ((balloc HO.out.2.2.2 (.cells (cI Y).toArray 27)).grown hg6 (by have := HSz.out; simp; omega) (fun g e => Nat.le_of_succ_le (own_lt HO.out.2.1 g e).1)) (Nat.le_refl _) _⟩
                                · rw [HF1.out, List.length_append, flatI_snoc]
                                  exact own_set ho6 ⟨w3.heap.size, 1, none⟩ (by simp only []; omega) _
                                · rw [HP1.out, List.length_append, flatN_snoc]
                                  exact own_set (own_two (HO.out.2.2.1.alloc (.cells (cI Y).toArray 27)) (HO.out.2.1.alloc (.cells (cI Y).toArray 27)) (by decide) hg6) ⟨w3.heap.size, 1, none⟩ (by simp only []; omega) _
                              case measure => simp [intOf]; omega
                          · have HP1 := hide (colN_false (p := rgP z.items o.items t.items) (n := k) (by rw [HP.out, HS1.out, HS2.out, HS3.out]; simp))
                            generalize colN (rgP z.items o.items t.items) k = R at *
                            cases bY
                            · have HF1 := hide (colI_none (f := rgF z.items o.items t.items) (n := k) (by rw [HF.out, HS1.out]; simp))
                              generalize colI (rgF z.items o.items t.items) k = P at *
                              obtain ⟨q0, q1⟩ := HO.out.1.two
                              have lM := HO.out.1.lt
                              go_wp2_with fail
                              go_roundw
                              case rel => exact ⟨k + 1, _, by omega, by go_num, HO.out.1, by rw [HF1.out]; exact HO.out.2.1, by rw [HP1.out]; exact HO.out.2.2.1, HO.out.2.2.2⟩
                              case measure => simp [intOf]; omega
                            · have HF1 := hide (colI_some (f := rgF z.items o.items t.items) (n := k) (x := Y) (by rw [HF.out, HS1.out]; simp))
                              generalize colI (rgF z.items o.items t.items) k = P at *
                              obtain ⟨q0, q1⟩ := HO.out.1.two
                              have lM := HO.out.1.lt
                              obtain ⟨y0, y1, y2, y3, y4, y5⟩ := HGY.out.allI
                              have ly := HGY.out.lt
                              have HSz := hide (show w3.heap.size + 1 ≤ w15.heap.size from HO.out.1.lt)
                              have gA : SlR (w15.alloc (.cells (cI Y).toArray 27)) _ 6 (some ⟨w15.heap.size, 0, none⟩) 1 (cI Y) := slr_new _ _ rfl rfl
                              go_wp2_with (at_builtin; refine wpList_append_sl (size := 6) rfl _ _ 29 rfl (w3.heap.size + 1) 27 i0 zV 56 Tryz.underlying29 hi hz0 hz1 hz2 rfl (by decide) (.slice Av P.length cv) P.length (P.flatMap cI) rfl (HO.out.2.1.alloc _) 1 1 (cI Y) rfl gA (Below.refl _ _) (fun u hu => oneI [Y] u (by simpa using hu)) (by unfold maxLen; omega) (by omega) (by have := HSz.out; simp; omega) ?_; intro v6 w7 ho6 hg6 hor6; obtain ⟨A6, c6, rfl, -, -, -⟩ := SlR.of_own ho6; have gM7 := (HO.out.1.alloc (.cells (cI Y).toArray 27)).grown hg6 (own_neB (HO.out.2.1.alloc (.cells (cI Y).toArray 27)) (HO.out.1.alloc (.cells (cI Y).toArray 27)) (by decide)); obtain ⟨m0, m1⟩ := gM7.two; have lM7 := gM7.lt; have fM7 := gM7.free 1)
                              go_roundw
                              case rel =>
                                refine ⟨k + 1, _, by omega, by go_num, gM7.set 1 _, ?_, ?_, bset ((balloc HO.out.2.2.2 (.cells (cI Y).toArray 27)).grown hg6 (by have := HSz.out; simp; omega) (fun g e => Nat.le_of_succ_le (own_lt HO.out.2.1 g e).1)) (Nat.le_refl _) _⟩
                                · rw [HF1.out, List.length_append, flatI_snoc]
                                  exact own_set ho6 ⟨w3.heap.size, 1, none⟩ (by simp only []; omega) _
                                · rw [HP1.out]
                                  exact own_set (own_two (HO.out.2.2.1.alloc (.cells (cI Y).toArray 27)) (HO.out.2.1.alloc (.cells (cI Y).toArray 27)) (by decide) hg6) ⟨w3.heap.size, 1, none⟩ (by simp only []; omega) _
                              case measure => simp [intOf]; omega
                        · have HP1 := hide (colN_false (p := rgP z.items o.items t.items) (n := k) (by rw [HP.out, HS1.out, HS2.out, HS3.out]; simp))
                          generalize colN (rgP z.items o.items t.items) k = R at *
                          cases bY
                          · have HF1 := hide (colI_none (f := rgF z.items o.items t.items) (n := k) (by rw [HF.out, HS1.out]; simp))
                            generalize colI (rgF z.items o.items t.items) k = P at *
                            obtain ⟨q0, q1⟩ := HO.out.1.two
                            have lM := HO.out.1.lt
                            go_wp2_with fail
                            go_roundw
                            case rel => exact ⟨k + 1, _, by omega, by go_num, HO.out.1, by rw [HF1.out]; exact HO.out.2.1, by rw [HP1.out]; exact HO.out.2.2.1, HO.out.2.2.2⟩
                            case measure => simp [intOf]; omega
                          · have HF1 := hide (colI_some (f := rgF z.items o.items t.items) (n := k) (x := Y) (by rw [HF.out, HS1.out]; simp))
                            generalize colI (rgF z.items o.items t.items) k = P at *
                            obtain ⟨q0, q1⟩ := HO.out.1.two
                            have lM := HO.out.1.lt
                            obtain ⟨y0, y1, y2, y3, y4, y5⟩ := HGY.out.allI
                            have ly := HGY.out.lt
                            have HSz := hide (show w3.heap.size + 1 ≤ w15.heap.size from HO.out.1.lt)
                            have gA : SlR (w15.alloc (.cells (cI Y).toArray 27)) _ 6 (some ⟨w15.heap.size, 0, none⟩) 1 (cI Y) := slr_new _ _ rfl rfl
                            go_wp2_with (at_builtin; refine wpList_append_sl (size := 6) rfl _ _ 29 rfl (w3.heap.size + 1) 27 i0 zV 56 Tryz.underlying29 hi hz0 hz1 hz2 rfl (by decide) (.slice Av P.length cv) P.length (P.flatMap cI) rfl (HO.out.2.1.alloc _) 1 1 (cI Y) rfl gA (Below.refl _ _) (fun u hu => oneI [Y] u (by simpa using hu)) (by unfold maxLen; omega) (by omega) (by have := HSz.out; simp; omega) ?_; intro v6 w7 ho6 hg6 hor6; obtain ⟨A6, c6, rfl, -, -, -⟩ := SlR.of_own ho6; have gM7 := (HO.out.1.alloc (.cells (cI Y).toArray 27)).grown hg6 (own_neB (HO.out.2.1.alloc (.cells (cI Y).toArray 27)) (HO.out.1.alloc (.cells (cI Y).toArray 27)) (by decide)); obtain ⟨m0, m1⟩ := gM7.two; have lM7 := gM7.lt; have fM7 := gM7.free 1)
                            go_roundw
                            case rel =>
                              refine ⟨k + 1, _, by omega, by go_num, gM7.set 1 _, ?_, ?_, bset ((balloc HO.out.2.2.2 (.cells (cI Y).toArray 27)).grown hg6 (by have := HSz.out; simp; omega) (fun g e => Nat.le_of_succ_le (own_lt HO.out.2.1 g e).1)) (Nat.le_refl _) _⟩
                              · rw [HF1.out, List.length_append, flatI_snoc]
                                exact own_set ho6 ⟨w3.heap.size, 1, none⟩ (by simp only []; omega) _
                              · rw [HP1.out]
                                exact own_set (own_two (HO.out.2.2.1.alloc (.cells (cI Y).toArray 27)) (HO.out.2.1.alloc (.cells (cI Y).toArray 27)) (by decide) hg6) ⟨w3.heap.size, 1, none⟩ (by simp only []; omega) _
                            case measure => simp [intOf]; omega
                      · cases bZ
                        · have HF1 := hide (colI_none (f := rgF z.items o.items t.items) (n := k) (by rw [HF.out, HS1.out]; simp))
                          have HP1 := hide (colN_false (p := rgP z.items o.items t.items) (n := k) (by rw [HP.out, HS1.out, HS2.out, HS3.out]; simp))
                          generalize colI (rgF z.items o.items t.items) k = P at *
                          generalize colN (rgP z.items o.items t.items) k = R at *
                          obtain ⟨q0, q1⟩ := HO.out.1.two
                          have lM := HO.out.1.lt
                          go_wp2_with fail
                          go_roundw
                          case rel => exact ⟨k + 1, _, by omega, by go_num, HO.out.1, by rw [HF1.out]; exact HO.out.2.1, by rw [HP1.out]; exact HO.out.2.2.1, HO.out.2.2.2⟩
                          case measure => simp [intOf]; omega
                        · have HF1 := hide (colI_some (f := rgF z.items o.items t.items) (n := k) (x := Z) (by rw [HF.out, HS1.out]; simp))
                          have HP1 := hide (colN_false (p := rgP z.items o.items t.items) (n := k) (by rw [HP.out, HS1.out, HS2.out, HS3.out]; simp))
                          generalize colI (rgF z.items o.items t.items) k = P at *
                          generalize colN (rgP z.items o.items t.items) k = R at *
                          obtain ⟨q0, q1⟩ := HO.out.1.two
                          have lM := HO.out.1.lt
                          obtain ⟨y0, y1, y2, y3, y4, y5⟩ := HGZ.out.allI
                          have ly := HGZ.out.lt
                          have HSz := hide (show w3.heap.size + 1 ≤ w15.heap.size from HO.out.1.lt)
                          have gA : SlR (w15.alloc (.cells (cI Z).toArray 27)) _ 6 (some ⟨w15.heap.size, 0, none⟩) 1 (cI Z) := slr_new _ _ rfl rfl
                          go_wp2_with (at_builtin; refine wpList_append_sl (size := 6) rfl _ _ 29 rfl (w3.heap.size + 1) 27 i0 zV 56 Tryz.underlying29 hi hz0 hz1 hz2 rfl (by decide) (.slice Av P.length cv) P.length (P.flatMap cI) rfl (HO.out.2.1.alloc _) 1 1 (cI Z) rfl gA (Below.refl _ _) (fun u hu => oneI [Z] u (by simpa using hu)) (by unfold maxLen; omega) (by omega) (by have := HSz.out; simp; omega) ?_; intro v6 w7 ho6 hg6 hor6; obtain ⟨A6, c6, rfl, -, -, -⟩ := SlR.of_own ho6; have gM7 := (HO.out.1.alloc (.cells (cI Z).toArray 27)).grown hg6 (own_neB (HO.out.2.1.alloc (.cells (cI Z).toArray 27)) (HO.out.1.alloc (.cells (cI Z).toArray 27)) (by decide)); obtain ⟨m0, m1⟩ := gM7.two; have lM7 := gM7.lt; have fM7 := gM7.free 1)
                          go_roundw
                          case rel =>
                            refine ⟨k + 1, _, by omega, by go_num, gM7.set 1 _, ?_, ?_, bset ((balloc HO.out.2.2.2 (.cells (cI Z).toArray 27)).grown hg6 (by have := HSz.out; simp; omega) (fun g e => Nat.le_of_succ_le (own_lt HO.out.2.1 g e).1)) (Nat.le_refl _) _⟩
                            · rw [HF1.out, List.length_append, flatI_snoc]
                              exact own_set ho6 ⟨w3.heap.size, 1, none⟩ (by simp only []; omega) _
                            · rw [HP1.out]
                              exact own_set (own_two (HO.out.2.2.1.alloc (.cells (cI Z).toArray 27)) (HO.out.2.1.alloc (.cells (cI Z).toArray 27)) (by decide) hg6) ⟨w3.heap.size, 1, none⟩ (by simp only []; omega) _
                          case measure => simp [intOf]; omega
              · obtain rfl : k = 100 := by omega
                have hlL := colI_len (rgF z.items o.items t.items) 100
                obtain ⟨L, hL⟩ : ∃ L, colI (rgF z.items o.items t.items) 100 = L := ⟨_, rfl⟩
                rw [hL] at ho gM hlL
                have HLR := hide (And.intro hL trivial)
                clear hL
                obtain ⟨q0, q1⟩ := gM.two
                have lM := gM.lt
                have hcap := (own_row ho).2.1
                have hp := c_rProper ⟨rz.id, Av, L.length, cv⟩ L wr (by simp only []; omega) (own_row ho).2.2
                have HO := hide (And.intro gM (And.intro ho (And.intro hu hbr)))
                have HC := hide (own_row ho)
                clear gM ho hu hbr hcap hlt
                go_wp2_with fail
                refine hp.mono ?_
                clear hp q0 q1
                rintro e w10 ⟨rfl, hb10⟩
                obtain ⟨-, -, gR, hbA⟩ := HM.out w10 (bthen HO.out.2.2.2 hb10)
                have HO10 := hide (And.intro (own_bel HO.out.2.1 hb10) (And.intro (own_bel HO.out.2.2.1 hb10) (And.intro gR hbA)))
                have gM10 := HO.out.1.below hb10 HO.out.1.lt
                obtain ⟨q0, q1⟩ := gM10.two
                have lM10 := gM10.lt
                obtain ⟨r0, r1, r2, r3⟩ := gR.all2
                have hrl := gR.lt
                have hne : w3.heap.size ≠ w.heap.size + 1 + 1 + 1 := by have := HGl.out; omega
                clear gM10 gR hbA hb10
                cases hP : (inB rz.id 1 20 && itsOk L) with
                | false =>
                  have HP := hide hP
                  clear hP
                  go_wp2
                  exact bodyPost_ret (v := .tuple #[.agg #[.int .i64 0, .slice none 0 0], .slice none 0 0, .int .i64 140]) (by simp [results, Tryz.results36, go_sem, r0, r1]) rfl ⟨(HO10.out.2.2.2.setCell (by simp; omega) _).setCell (by simp; omega) _, .inr ⟨HB.out, .inl ⟨by rw [← HID.out.1, HLR.out.1]; exact HP.out, rfl⟩⟩⟩
                | true =>
                  have HP := hide hP
                  clear hP
                  go_wp2_with fail
                  refine bodyPost_ret (v := .tuple #[.agg #[.int .i64 rz.id, .slice Av L.length cv], .slice Au (colN (rgP z.items o.items t.items) 100).length cu, .int .i64 0]) (by simp [results, Tryz.results36, go_sem, r0, r1]) rfl ?_
                  obtain ⟨ho10, hu10, gR, hbA⟩ := HO10.out
                  refine ⟨(hbA.setCell (by simp; omega) _).setCell (by simp; omega) _, .inr ⟨HB.out, .inr ⟨by rw [← HID.out.1, HLR.out.1]; exact HP.out, Av, L.length, cv, .slice Au (colN (rgP z.items o.items t.items) 100).length cu, by rw [← HID.out.1], HC.out.1, by simpa [maxLen] using HC.out.2.1, ?_, ?_⟩⟩⟩
                  · rw [HLR.out.1]
                    exact (own_row (own_set (own_set ho10 ⟨w.heap.size + 1 + 1 + 1, 0, none⟩ (by have := HGl.out; simp only []; omega) (.int .i64 rz.id)) ⟨w.heap.size + 1 + 1 + 1, 1, none⟩ (by have := HGl.out; simp only []; omega) (.slice Av L.length cv))).2.2
                  · exact own_base (own_set (own_set hu10 ⟨w.heap.size + 1 + 1 + 1, 0, none⟩ (by have := HGl.out; simp only []; omega) (.int .i64 rz.id)) ⟨w.heap.size + 1 + 1 + 1, 1, none⟩ (by have := HGl.out; simp only []; omega) (.slice Av L.length cv)) (by have := HGl.out; omega)
          · have hd2 : (rt.id != rz.id) = true := by simpa using he2
            have HE := hide (show mergeB z o t = false by unfold mergeB; rw [← HID.out.1, ← HID.out.2.2]; simp [he2])
            go_wp2
            exact bodyPost_ret (v := .tuple #[.agg #[.int .i64 0, .slice none 0 0], .slice none 0 0, .int .i64 140]) (by simp [results, Tryz.results36, go_sem, r0, r1]) rfl ⟨((bthen hb0 hb13).setCell (by simp; omega) _).setCell (by simp; omega) _, .inl ⟨HE.out, rfl⟩⟩
        · have hd1 : (ro.id != rz.id) = true := by simpa using he1
          have HE := hide (show mergeB z o t = false by unfold mergeB; rw [← HID.out.1, ← HID.out.2.1]; simp [he1])
          go_wp2
          exact bodyPost_ret (v := .tuple #[.agg #[.int .i64 0, .slice none 0 0], .slice none 0 0, .int .i64 140]) (by simp [results, Tryz.results36, go_sem, r0, r1]) rfl ⟨((bthen hb0 hb13).setCell (by simp; omega) _).setCell (by simp; omega) _, .inl ⟨HE.out, rfl⟩⟩
end Go.Proofs.YtncdombfhcfobaaGreat
/- Plain law: what the reference's Merge answers is what the package's own does. -/
namespace Go.Proofs.YtncdombfhcfobaaGreat
open Go.RowKit Go.Shelf
theorem some_kind {l : List It} (h : itsOk l = true) (n : Int) : (getI l n).isSome = !decide ((atI' l n).kind = 0) := by
  rw [get_at h]
  by_cases hk : (atI' l n).kind = 0 <;> simp [hk]
theorem rgS_eq {a b : List It} (ha : itsOk a = true) (hb : itsOk b = true) (n : Nat) : rgS a b n = decide (atI' a n = atI' b n) := by
  unfold rgS
  have h := get_inj ha hb (n : Int)
  by_cases he : atI' a n = atI' b n
  · rw [h.2 he]; simp [he]
  · have hne : getI a n ≠ getI b n := fun e => he (h.1 e)
    have h1 := some_kind ha (n : Int)
    have h2 := some_kind (hb) (n : Int)
    cases hx : (getI a n).isSome <;> cases hy : (getI b n).isSome
    · exfalso
      apply hne
      rw [Option.isSome_eq_false_iff.1 hx |> Option.isNone_iff_eq_none.1, Option.isSome_eq_false_iff.1 hy |> Option.isNone_iff_eq_none.1]
    all_goals simp [he]
theorem rgP_eq {z o t : List It} (hz : itsOk z = true) (ho : itsOk o = true) (ht : itsOk t = true) (n : Nat) : rgP z o t n = mgC (atI' (byL z) n) (atI' (byL o) n) (atI' (byL t) n) := by
  unfold rgP mgC
  rw [rgS_eq hz ho, rgS_eq hz ht, rgS_eq ho ht, atI_byL hz, atI_byL ho, atI_byL ht]
  rw [show decide (atI' z n = atI' o n) = decide (atI' o n = atI' z n) from decide_eq_decide.2 eq_comm, show decide (atI' z n = atI' t n) = decide (atI' t n = atI' z n) from decide_eq_decide.2 eq_comm]
  cases decide (atI' o n = atI' z n) <;> cases decide (atI' t n = atI' z n) <;> rfl
theorem rgN_eq {z o t : List It} (hz : itsOk z = true) (ho : itsOk o = true) (ht : itsOk t = true) : ∀ N, colN (rgP z o t) N = mgG (byL z) (byL o) (byL t) N
  | 0 => rfl
  | n + 1 => by
    unfold colN mgG
    rw [rgN_eq hz ho ht n, rgP_eq hz ho ht n]
theorem rgF_eq {z o t : List It} (hz : itsOk z = true) (ho : itsOk o = true) (ht : itsOk t = true) (n : Nat) :
    rgF z o t n = if (mgAt (byL z) (byL o) (byL t) n).kind ≠ 0 then some (mgAt (byL z) (byL o) (byL t) n) else none := by
  unfold rgF mgAt mgX
  rw [rgS_eq hz ho, atI_byL hz, atI_byL ho, atI_byL ht, some_kind ho, some_kind ht]
  by_cases h1 : atI' z n = atI' o n
  · rw [h1]
    by_cases h2 : atI' t n = atI' o n
    · rw [h2]
      by_cases hk : (atI' o n).kind = 0 <;> simp [hk]
    · by_cases hk : (atI' t n).kind = 0 <;> simp [hk, h2]
  · have h1' : ¬ atI' o n = atI' z n := fun e => h1 e.symm
    by_cases h2 : atI' t n = atI' z n
    · by_cases hk : (atI' o n).kind = 0 <;> simp [hk, h1, h2]
    · by_cases hk : (atI' o n).kind = 0 <;> simp [hk, h1, h1', h2]
theorem rg_items {z o t s : List It} (hz : itsOk z = true) (ho : itsOk o = true) (ht : itsOk t = true) (hs : SortOf (mgM (byL z) (byL o) (byL t) 100) s) : colI (rgF z o t) 100 = s := by
  have hf : ∀ n x, rgF z o t n = some x → x.id = n := by
    intro n x hx
    rw [rgF_eq hz ho ht] at hx
    split at hx
    · rename_i hk
      injection hx with hx
      rw [← hx]
      exact mgX_id hk
    · cases hx
  refine asc_sameI (colI_asc hf 100) (hs.lt (nd_mgM _ _ _ _)) (fun x => ?_)
  rw [colI_mem hf, hs.1.mem_iff, getI_mem (nd_mgM _ _ _ _)]
  constructor
  · rintro ⟨m, h1, h2⟩
    have hid := hf m x h2
    rw [hid, getI_mgM]
    rw [rgF_eq hz ho ht] at h2
    split at h2
    · rename_i hk
      rw [if_pos ⟨h1, hk⟩]
      exact h2
    · cases h2
  · intro hx
    have hm : x.id ∈ (mgM (byL z) (byL o) (byL t) 100).map (·.id) := List.mem_map.2 ⟨x, (getI_some hx).1, rfl⟩
    obtain ⟨r1, r2⟩ := mgM_ids _ _ _ _ _ hm
    have hc : ((x.id.toNat : Nat) : Int) = x.id := by omega
    rw [← hc, getI_mgM] at hx
    split at hx
    · rename_i hk
      refine ⟨x.id.toNat, by omega, ?_⟩
      rw [rgF_eq hz ho ht, if_pos hk.2]
      exact hx
    · cases hx
end Go.Proofs.YtncdombfhcfobaaGreat
