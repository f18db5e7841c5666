/- Contract: Differ. -/
import Derived.Test.YtncdombfhcfobaaGreatM16
namespace Go.Proofs.YtncdombfhcfobaaGreat
open Go.RowKit
def getI (ls : List It) (n : Int) : Option It := ls.find? (fun x => decide (x.id = n))
theorem lookup_kvI (n : Int) : ∀ ls : List It, (ls.map kvI).lookup n = (getI ls n).map itV
  | [] => rfl
  | x :: ls => by
    have ih := lookup_kvI n ls
    by_cases h : x.id = n
    · subst h; simp [getI, kvI]
    · have h' : ¬ n = x.id := fun e => h e.symm
      simp only [getI, List.find?_cons, h, decide_false, List.map_cons, kvI, List.lookup, beq_eq_false_iff_ne.2 h'] at ih ⊢
      exact ih
theorem look_get (n : Int) (ls : List It) : Value.tuple #[((ls.map kvI).lookup n).getD zV, .bool ((ls.map kvI).lookup n).isSome] = .tuple #[itV ((getI ls n).getD zIt), .bool (getI ls n).isSome] := by
  rw [lookup_kvI]
  cases getI ls n with
  | none => rfl
  | some y => rfl
theorem look_get1 (n : Int) (ls : List It) : ((ls.map kvI).lookup n).getD zV = itV ((getI ls n).getD zIt) := by
  rw [lookup_kvI]
  cases getI ls n with
  | none => rfl
  | some y => rfl
def changedB (old : List It) (x : It) : Bool := !decide (getI old x.id = some x)
def goneB (now : List It) (x : It) : Bool := (getI now x.id).isNone
def chgL (a b : List It) : List It := b.filter (changedB (byL a))
def goneL (a b : List It) : List Int := (a.filter (goneB (byL b))).map (·.id)
theorem filt_snoc (p : It → Bool) (l : List It) (k : Nat) (hk : k < l.length) : (l.take (k + 1)).filter p = if p l[k] then (l.take k).filter p ++ [l[k]] else (l.take k).filter p := by
  rw [List.take_succ_eq_append_getElem hk, List.filter_append]
  by_cases h : p l[k] = true
  · simp [h]
  · have h' : p l[k] = false := by simpa using h
    simp [h']
theorem slr_new {t : TypeId} {cs : List Value} {k : Nat} (W : World) (N : Nat) (hl : cs.length = 1 * k) (h : W.heap.size = N) : SlR (W.alloc (.cells cs.toArray t)) (W.alloc (.cells cs.toArray t)).heap.size k (some ⟨N, 0, none⟩) 1 cs := by
  subst h; exact (Blk.new W t cs).slr hl
def DifferPost (a b : List It) (w : World) (e : Ending) (w' : World) : Prop :=
  Below w.heap.size w w' ∧ ((itsOk a && itsOk b) = false ∧ e = .returned (.tuple #[.slice none 0 0, .slice none 0 0]) ∨
    (itsOk a && itsOk b) = true ∧ ∃ v u, e = .returned (.tuple #[v, u]) ∧ w'.ownsRow w.heap.size 27 6 v (chgL a b).length ((chgL a b).flatMap cI) ∧ w'.ownsRow w.heap.size 3 1 u (goneL a b).length ((goneL a b).flatMap cN))
set_option maxRecDepth 100000 in
set_option maxHeartbeats 4000000 in
theorem c_Differ (A : Option Addr) (n c : Nat) (l : List It) (B : Option Addr) (m d : Nat) (k : List It) (w : World) (hn : n ≤ 9223372036854775807) (hm : m ≤ 9223372036854775807) (hr : SlR w w.heap.size 6 A n (l.flatMap cI)) (hs : SlR w w.heap.size 6 B m (k.flatMap cI)) :
    Calls Tryz.prog 37 #[.slice A n c, .slice B m d] w (DifferPost l k w) := by
  obtain ⟨i0, hi, hz0, hz1, hz2⟩ := info_parts Tryz.infoItem
  obtain ⟨i1, hi1, hy0, hy1, hy2⟩ := info_parts Tryz.infoInt
  have hl := hr.lenI
  have hk := hs.lenI
  go_enter Tryz.func37, Tryz.ntmps37
  go_wp2_with fail
  refine (c_items A n c l _ hn hr).mono ?_
  rintro e w1 ⟨rfl, hb1⟩
  have hr1 := hr.to' hb1
  have hs1 := hs.to' hb1
  clear hr hs
  cases hA : itsOk l with
  | false =>
    have HA := hide hA
    clear hA hl hk
    go_wp2
    go_ret2
    exact ⟨hb1, .inl ⟨by rw [HA.out]; rfl, rfl⟩⟩
  | true =>
    have HA := hide hA
    have hn12 := itsOk_len hA
    clear hA
    go_wp2_with fail
    refine (c_items B m d k _ hm hs1).mono ?_
    rintro e w2 ⟨rfl, hb2⟩
    have hb02 := bthen hb1 hb2
    have hr2 := hr1.to' hb2
    have hs2 := hs1.to' hb2
    clear hr1 hs1 hb1 hb2
    cases hB : itsOk k with
    | false =>
      have HB := hide hB
      clear hB hl hk hn12
      go_wp2
      go_ret2
      exact ⟨hb02, .inl ⟨by rw [HB.out]; simp, rfl⟩⟩
    | true =>
      have HB := hide (show (itsOk l && itsOk k) = true by rw [HA.out, hB]; rfl)
      have hm12 := itsOk_len hB
      rw [hl] at hn12
      rw [hk] at hm12
      have HL := hide (And.intro hl hk)
      clear hB HA hl hk
      go_wp2_with fail
      refine (c_byID A n c l _ hn hr2).mono ?_
      rintro e w3 ⟨b1, rfl, hbb1, him1, hb3⟩
      have hr3 := hr2.to' hb3
      have hs3 := hs2.to' hb3
      have hb03 := bthen hb02 hb3
      have hbw1 : w.heap.size ≤ b1 := by have := hb02.size; omega
      clear hr2 hs2 hb02 hb3 hbb1
      go_wp2_with fail
      refine (c_byID B m d k _ hm hs3).mono ?_
      rintro e w4 ⟨b2, rfl, hbb2, him2, hb4⟩
      have hr4 := hr3.to' hb4
      have hs4 := hs3.to' hb4
      have hb04 := bthen hb03 hb4
      have him14 := him1.below hb4 him1.lt
      have hbw2 : w.heap.size ≤ b2 := by have := hb03.size; omega
      have hr5 : SlR w4 w4.heap.size 6 A n (l.flatMap cI) := hr4
      clear hr3 hs3 hb03 hb4 hbb2 him1
      have HR := hide hr4
      have HM2 := hide him2
      clear hr4 hr5 him2
      go_wp2_with fail
      go_loopw [6, 32] (fun v i wr => ∃ q : Nat, q ≤ m ∧ i = .int .i64 q ∧ wr.ownsRow w4.heap.size 27 6 v ((k.take q).filter (changedB (byL l))).length (((k.take q).filter (changedB (byL l))).flatMap cI) ∧ Below w4.heap.size w4 wr) (fun _ i _ => m - (intOf i).toNat)
      case atStart => exact ⟨0, by omega, rfl, World.ownsRow_nil _ _ _ _, Below.refl _ _⟩
      case round =>
        obtain ⟨q, hq, rfl, hown, hb⟩ := hrel
        by_cases hlt : q < m
        · obtain ⟨hl, hk⟩ := HL.out
          have hqk : q < k.length := by omega
          obtain ⟨b, off, hBe, hbb, x0, x1, x2, x3, x4, x5⟩ := hs4.atI hb hqk
          have hqi : (q : Int) < (m : Int) := by omega
          have HSn := hide (filt_snoc (changedB (byL l)) k q hqk)
          have him := him14.below hb him14.lt
          have hPl : ((k.take q).filter (changedB (byL l))).length ≤ 12 := Nat.le_trans (List.length_filter_le _ _) (by rw [List.length_take]; omega)
          rw [hBe] at *
          clear hBe hs4 him14 hl hk
          generalize (k.take q).filter (changedB (byL l)) = P at *
          generalize k[q] = s at *
          clear hqk
          have hlk := look_get s.id (byL l)
          have hch : changedB (byL l) s = !decide (getI (byL l) s.id = some s) := rfl
          have HIM := hide him
          clear him
          cases hg : getI (byL l) s.id with
          | none =>
            have HC := hide (show changedB (byL l) s = true by rw [hch, hg]; simp)
            rw [hg] at hlk
            obtain ⟨y, hy⟩ : ∃ y : It, y = zIt := ⟨_, rfl⟩
            change _ = Value.tuple #[itV zIt, .bool false] at hlk
            rw [← hy] at hlk
            have HLk := hide hlk
            clear hlk hch hg hy
            have gA : SlR (((wr.alloc (.cells #[.int .i64 s.id, .int .i64 s.kind, .int .i64 s.x, .int .i64 s.y, .string s.text, .int .i64 s.mod] 27)).alloc (.cells #[.int .i64 y.id, .int .i64 y.kind, .int .i64 y.x, .int .i64 y.y, .string y.text, .int .i64 y.mod] 27)).alloc (.cells (cI s).toArray 27)) _ 6 (some ⟨wr.heap.size + 1 + 1, 0, none⟩) 1 (cI s) := slr_new _ _ rfl (by simp)
            go_wp2_with (first | (at_lookup; refine wpList_lookup_im rfl _ _ 104 true rfl 3 27 _ Tryz.underlying104 Tryz.underlying3 (zvItem _) rfl (HIM.out.alloc _) s.id rfl (.tuple #[itV y, .bool false]) HLk.out ?_) | (at_builtin; refine wpList_append_sl (size := 6) rfl _ _ 29 rfl w4.heap.size 27 i0 zV 56 Tryz.underlying29 hi hz0 hz1 hz2 rfl (by decide) _ P.length (P.flatMap cI) rfl (((hown.alloc _).alloc _).alloc _) 1 1 (cI s) rfl gA (Below.refl _ _) (fun u hu => oneI [s] u (by simpa using hu)) (by unfold maxLen; omega) (by omega) (by have := hb.size; simp; omega) ?_; intro v6 w6 ho6 hg6 hor6))
            go_roundw
            case rel =>
              refine ⟨q + 1, by omega, by go_num, ?_, (balloc (balloc (balloc hb _) _) _).grown hg6 (by have := hb.size; simp; omega) (fun g e => (own_lt hown g e).1)⟩
              rw [HSn.out, if_pos HC.out, List.length_append, flatI_snoc]
              exact ho6
            case measure => simp [intOf]; omega
          | some y =>
            rw [hg] at hlk
            change _ = Value.tuple #[itV y, .bool true] at hlk
            have HLk := hide hlk
            by_cases he : s = y
            · have HC := hide (show changedB (byL l) s = false by rw [hch, hg, he]; simp)
              have hq0 : ∀ w, (binOp .neq 27 (itV s) (itV y)).run Tryz.prog w = .ok (.bool false) w := fun w => by rw [neqIt w s y]; simp [he]
              simp only [itV] at hq0
              clear hlk hch hg he
              go_wp2_with ((at_lookup; refine wpList_lookup_im rfl _ _ 104 true rfl 3 27 _ Tryz.underlying104 Tryz.underlying3 (zvItem _) rfl (HIM.out.alloc _) s.id rfl (.tuple #[itV y, .bool true]) HLk.out ?_))
              go_roundw
              case rel =>
                refine ⟨q + 1, by omega, by go_num, ?_, balloc (balloc hb _) _⟩
                rw [HSn.out, if_neg (by rw [HC.out]; decide)]
                exact (hown.alloc _).alloc _
              case measure => simp [intOf]; omega
            · have HC := hide (show changedB (byL l) s = true by
                rw [hch, hg]
                have : ¬ y = s := fun e => he e.symm
                simp [this])
              have hq0 : ∀ w, (binOp .neq 27 (itV s) (itV y)).run Tryz.prog w = .ok (.bool true) w := fun w => by rw [neqIt w s y]; simp [he]
              simp only [itV] at hq0
              clear hlk hch hg he
              have gA : SlR (((wr.alloc (.cells #[.int .i64 s.id, .int .i64 s.kind, .int .i64 s.x, .int .i64 s.y, .string s.text, .int .i64 s.mod] 27)).alloc (.cells #[.int .i64 y.id, .int .i64 y.kind, .int .i64 y.x, .int .i64 y.y, .string y.text, .int .i64 y.mod] 27)).alloc (.cells (cI s).toArray 27)) _ 6 (some ⟨wr.heap.size + 1 + 1, 0, none⟩) 1 (cI s) := slr_new _ _ rfl (by simp)
              go_wp2_with (first | (at_lookup; refine wpList_lookup_im rfl _ _ 104 true rfl 3 27 _ Tryz.underlying104 Tryz.underlying3 (zvItem _) rfl (HIM.out.alloc _) s.id rfl (.tuple #[itV y, .bool true]) HLk.out ?_) | (at_builtin; refine wpList_append_sl (size := 6) rfl _ _ 29 rfl w4.heap.size 27 i0 zV 56 Tryz.underlying29 hi hz0 hz1 hz2 rfl (by decide) _ P.length (P.flatMap cI) rfl (((hown.alloc _).alloc _).alloc _) 1 1 (cI s) rfl gA (Below.refl _ _) (fun u hu => oneI [s] u (by simpa using hu)) (by unfold maxLen; omega) (by omega) (by have := hb.size; simp; omega) ?_; intro v6 w6 ho6 hg6 hor6))
              go_roundw
              case rel =>
                refine ⟨q + 1, by omega, by go_num, ?_, (balloc (balloc (balloc hb _) _) _).grown hg6 (by have := hb.size; simp; omega) (fun g e => (own_lt hown g e).1)⟩
                rw [HSn.out, if_pos HC.out, List.length_append, flatI_snoc]
                exact ho6
              case measure => simp [intOf]; omega
        · obtain rfl : m = q := by omega
          have htk : k.take m = k := by rw [← HL.out.2, List.take_length]
          rw [htk] at hown
          obtain ⟨wo, rfl⟩ : ∃ wo : World, wo = wr := ⟨_, rfl⟩
          have hroA := HR.out.to' hb
          have himo := HM2.out.below hb HM2.out.lt
          have hb0o := bthen hb04 hb
          have hs04 := hb04.size
          have HV := hide hown
          clear htk hs4 him14 hb hb04 hown
          go_wp2_with fail
          go_loopw [7, 57] (fun v i wr => ∃ q : Nat, q ≤ n ∧ i = .int .i64 q ∧ wr.ownsRow wo.heap.size 3 1 v ((l.take q).filter (goneB (byL k))).length ((((l.take q).filter (goneB (byL k))).map (·.id)).flatMap cN) ∧ Below wo.heap.size wo wr) (fun _ i _ => n - (intOf i).toNat)
          case atStart => exact ⟨0, by omega, rfl, World.ownsRow_nil _ _ _ _, Below.refl _ _⟩
          case round =>
            obtain ⟨q, hq, rfl, hown, hb2⟩ := hrel
            by_cases hltq : q < n
            · obtain ⟨hl, hk⟩ := HL.out
              have hqk : q < l.length := by omega
              obtain ⟨b, off, hAe, hbb, x0, x1, x2, x3, x4, x5⟩ := hroA.atI hb2 hqk
              have hqi : (q : Int) < (n : Int) := by omega
              have HSn := hide (filt_snoc (goneB (byL k)) l q hqk)
              have him := himo.below hb2 himo.lt
              have hPl : ((l.take q).filter (goneB (byL k))).length ≤ 12 := Nat.le_trans (List.length_filter_le _ _) (by rw [List.length_take]; omega)
              rw [hAe] at *
              clear hAe hroA himo hl hk
              generalize (l.take q).filter (goneB (byL k)) = P at *
              generalize l[q] = s at *
              clear hqk
              have hlk := look_get s.id (byL k)
              have hch : goneB (byL k) s = (getI (byL k) s.id).isNone := rfl
              have HIM := hide him
              clear him
              cases hg : getI (byL k) s.id with
              | none =>
                have HC := hide (show goneB (byL k) s = true by rw [hch, hg]; rfl)
                rw [hg] at hlk
                obtain ⟨y, hy⟩ : ∃ y : It, y = zIt := ⟨_, rfl⟩
                change _ = Value.tuple #[itV zIt, .bool false] at hlk
                rw [← hy] at hlk
                have HLk := hide hlk
                clear hlk hch hg hy
                have gA : SlR (((wr.alloc (.cells #[.int .i64 s.id, .int .i64 s.kind, .int .i64 s.x, .int .i64 s.y, .string s.text, .int .i64 s.mod] 27)).alloc (.cells #[.int .i64 y.id, .int .i64 y.kind, .int .i64 y.x, .int .i64 y.y, .string y.text, .int .i64 y.mod] 27)).alloc (.cells (cN s.id).toArray 3)) _ 1 (some ⟨wr.heap.size + 1 + 1, 0, none⟩) 1 (cN s.id) := slr_new _ _ rfl (by simp)
                go_wp2_with (first | (at_lookup; refine wpList_lookup_im rfl _ _ 104 true rfl 3 27 _ Tryz.underlying104 Tryz.underlying3 (zvItem _) rfl (HIM.out.alloc _) s.id rfl (.tuple #[itV y, .bool false]) HLk.out ?_) | (at_builtin; refine wpList_append_sl (size := 1) rfl _ _ 30 rfl wo.heap.size 3 i1 (.int .i64 0) 8 Tryz.underlying30 hi1 hy0 hy1 hy2 rfl (by decide) _ P.length ((P.map (·.id)).flatMap cN) rfl (((hown.alloc _).alloc _).alloc _) 1 1 (cN s.id) rfl gA (Below.refl _ _) (fun u hu => oneN [s.id] u (by simpa using hu)) (by unfold maxLen; omega) (by omega) (by have := hb2.size; simp; omega) ?_; intro v6 w6 ho6 hg6 hor6))
                go_roundw
                case rel =>
                  refine ⟨q + 1, by omega, by go_num, ?_, (balloc (balloc (balloc hb2 _) _) _).grown hg6 (by have := hb2.size; simp; omega) (fun g e => (own_lt hown g e).1)⟩
                  rw [HSn.out, if_pos HC.out, List.length_append, List.map_append, List.map_cons, List.map_nil, flatN_snoc]
                  exact ho6
                case measure => simp [intOf]; omega
              | some y =>
                have HC := hide (show goneB (byL k) s = false by rw [hch, hg]; rfl)
                rw [hg] at hlk
                change _ = Value.tuple #[itV y, .bool true] at hlk
                have HLk := hide hlk
                clear hlk hch hg
                go_wp2_with (at_lookup; refine wpList_lookup_im rfl _ _ 104 true rfl 3 27 _ Tryz.underlying104 Tryz.underlying3 (zvItem _) rfl (HIM.out.alloc _) s.id rfl (.tuple #[itV y, .bool true]) HLk.out ?_)
                go_roundw
                case rel =>
                  refine ⟨q + 1, by omega, by go_num, ?_, balloc (balloc hb2 _) _⟩
                  rw [HSn.out, if_neg (by rw [HC.out]; decide)]
                  exact (hown.alloc _).alloc _
                case measure => simp [intOf]; omega
            · obtain rfl : n = q := by omega
              have htk : l.take n = l := by rw [← HL.out.1, List.take_length]
              rw [htk] at hown
              have HU := hide hown
              clear hown htk hroA himo
              go_wp2
              go_ret2
              exact ⟨bthen hb0o hb2, .inr ⟨HB.out, _, _, rfl, own_base (own_bel HV.out hb2) hs04, own_base (by have h := HU.out; unfold goneL; rw [List.length_map]; exact h) hb0o.size⟩⟩
end Go.Proofs.YtncdombfhcfobaaGreat
