/- Places that an instance comes to; contract: the reference's SamePlaced. -/
import Derived.Test.YtncdombfhcfobaaM20
namespace Go.Proofs.Ytncdombfhcfobaa
open Go.RowKit
theorem neqPl (w : World) (a p b q : Int) : (binOp .neq 34 (.agg #[.int .i64 a, .int .i64 p]) (.agg #[.int .i64 b, .int .i64 q])).run Try.prog w = .ok (.bool (!decide (a = b ∧ p = q))) w := by
  simp only [binOp]
  have := eqPl w a p b q
  simp [Op.equal, Op.maxDepth] at this ⊢
  rw [this]
  by_cases h1 : a = b <;> by_cases h2 : p = q <;> simp [h1, h2]
/-- a place that an instance comes to -/
structure Pl where
  path : List Int
  x : Int
  y : Int
  text : ByteArray
deriving DecidableEq
theorem Pl.ext_iff' (a b : Pl) : a = b ↔ (a.path = b.path ∧ (a.x = b.x ∧ a.y = b.y) ∧ a.text = b.text) := by
  cases a; cases b; simp [and_assoc]
/-- what the rows of memory hold, as places -/
def Pls (w : World) (rows : List PR) (ps : List Pl) : Prop :=
  rows.length = ps.length ∧ ∀ (k : Nat) (h : k < rows.length) (h' : k < ps.length), (rows[k].x = ps[k].x ∧ rows[k].y = ps[k].y ∧ rows[k].text = ps[k].text) ∧ rows[k].n ≤ rows[k].c ∧ rows[k].c ≤ 9223372036854775807 ∧ SlR w w.heap.size 1 rows[k].a rows[k].n (ps[k].path.flatMap cN)
theorem Pls.to {w w' : World} {rows : List PR} {ps : List Pl} (h : Pls w rows ps) (hb : Below w.heap.size w w') : Pls w' rows ps :=
  ⟨h.1, fun k h1 h2 => ⟨(h.2 k h1 h2).1, (h.2 k h1 h2).2.1, (h.2 k h1 h2).2.2.1, (h.2 k h1 h2).2.2.2.to' hb⟩⟩
theorem SlR.lenP {w : World} {B n : Nat} {A : Option Addr} {l : List PR} (h : SlR w B 4 A n (l.flatMap cP)) : l.length = n := by
  have := h.1
  rw [flat_len cP 4 (fun _ => rfl)] at this
  omega
theorem SlR.atP {w : World} {B n : Nat} {A : Option Addr} {l : List PR} {wr : World} (h : SlR w B 4 A n (l.flatMap cP)) (hb : Below B w wr) {k : Nat} (hk : k < l.length) :
    ∃ b off, A = some ⟨b, off, none⟩ ∧ b < B ∧ wr.cell? ⟨b, off + k * 4, none⟩ = some (.slice l[k].a l[k].n l[k].c) ∧ wr.cell? ⟨b, off + k * 4 + 1, none⟩ = some (.int .i64 l[k].x) ∧ wr.cell? ⟨b, off + k * 4 + 2, none⟩ = some (.int .i64 l[k].y) ∧
      wr.cell? ⟨b, off + k * 4 + 3, none⟩ = some (.string l[k].text) := by
  obtain ⟨b, off, e, hbb, hc⟩ := h.2 (by have := h.lenP; omega)
  have g := flat_get cP 4 (fun _ => rfl) l k hk
  refine ⟨b, off, e, hbb, ?_, ?_, ?_, ?_⟩
  · exact (hb.cell (p := ⟨b, _, none⟩) hbb).trans (hc (k * 4) _ (g 0 (by omega)))
  · exact (hb.cell (p := ⟨b, _, none⟩) hbb).trans (hc (k * 4 + 1) _ (by simpa [cP] using g 1 (by omega)))
  · exact (hb.cell (p := ⟨b, _, none⟩) hbb).trans (hc (k * 4 + 2) _ (by simpa [cP] using g 2 (by omega)))
  · exact (hb.cell (p := ⟨b, _, none⟩) hbb).trans (hc (k * 4 + 3) _ (by simpa [cP] using g 3 (by omega)))
theorem SlR.bwP {w0 : World} {b off n k : Nat} {l : List PR} (h : SlR w0 w0.heap.size 4 (some ⟨b, off, none⟩) n (l.flatMap cP)) (hk : k < l.length) :
    (∀ x : BW w0, x.val.cell? ⟨b, off + k * 4, none⟩ = some (.slice l[k].a l[k].n l[k].c)) ∧ (∀ x : BW w0, x.val.cell? ⟨b, off + k * 4 + 1, none⟩ = some (.int .i64 l[k].x)) ∧ (∀ x : BW w0, x.val.cell? ⟨b, off + k * 4 + 2, none⟩ = some (.int .i64 l[k].y)) ∧ (∀ x : BW w0, x.val.cell? ⟨b, off + k * 4 + 3, none⟩ = some (.string l[k].text)) := by
  have key := fun x : BW w0 => h.atP x.ok hk
  refine ⟨fun x => ?_, fun x => ?_, fun x => ?_, fun x => ?_⟩ <;> (obtain ⟨b', off', e, _, h0, h1, h2, h3⟩ := key x; cases e; assumption)
theorem c_rIntsv {l k : List Int} {v : Bool} (h : decide (l = k) = v) (A : Option Addr) (n c : Nat) (B : Option Addr) (m d : Nat) (w : World) (hn : n ≤ 9223372036854775807) (hm : m ≤ 9223372036854775807) (hr : SlR w w.heap.size 1 A n (l.flatMap cN)) (hs : SlR w w.heap.size 1 B m (k.flatMap cN)) :
    Calls Try.prog 14 #[.slice A n c, .slice B m d] w fun e w' => e = .returned (.bool v) ∧ Below w.heap.size w w' := h ▸ c_rInts A n c l B m d k w hn hm hr hs
set_option maxRecDepth 100000 in
set_option maxHeartbeats 2000000 in
theorem c_rSamePlaced (A : Option Addr) (n c : Nat) (l : List PR) (ps : List Pl) (B : Option Addr) (m d : Nat) (k : List PR) (qs : List Pl) (w : World) (hn : n ≤ 9223372036854775807) (hm : m ≤ 9223372036854775807) (hr : SlR w w.heap.size 4 A n (l.flatMap cP)) (hs : SlR w w.heap.size 4 B m (k.flatMap cP)) (hP : Pls w l ps) (hQ : Pls w k qs) :
    Calls Try.prog 26 #[.slice A n c, .slice B m d] w fun e w' => e = .returned (.bool (decide (ps = qs))) ∧ Below w.heap.size w w' := by
  have hl := hr.lenP
  have hk := hs.lenP
  have hlp := hP.1
  have hkq := hQ.1
  by_cases hlen : n = m
  · subst hlen
    have hb0 : ((n : Int) != (n : Int)) = false := by simp
    have HL := hide (And.intro (And.intro hl hlp) (And.intro hk hkq))
    clear hlp hkq
    go_enter Try.func26, Try.ntmps26
    go_wp2
    go_loopw [5] (fun i wr => ∃ j : Nat, j ≤ n ∧ i = .int .i64 j ∧ ps.take j = qs.take j ∧ Below w.heap.size w wr) (fun i _ => n - (intOf i).toNat)
    case atStart => exact ⟨0, Nat.zero_le _, rfl, rfl, Below.refl _ _⟩
    case round =>
      obtain ⟨j, hj, rfl, htk, hb⟩ := hrel
      by_cases hlt : j < n
      · have h1 : j < l.length := by omega
        have h2 : j < k.length := by omega
        have h3 : j < ps.length := by have := HL.out; omega
        have h4 : j < qs.length := by have := HL.out; omega
        have hr' := hr.to' hb
        have hs' := hs.to' hb
        have hP' := (hP.to hb).2 j h1 h3
        have hQ' := (hQ.to hb).2 j h2 h4
        obtain ⟨b, off, rfl, hbb, -⟩ := hr'.atP (Below.refl _ _) h1
        obtain ⟨b', off', rfl, hbb', -⟩ := hs'.atP (Below.refl _ _) h2
        obtain ⟨x0, x1, x2, x3⟩ := hr'.bwP h1
        obtain ⟨y0, y1, y2, y3⟩ := hs'.bwP h2
        have H := hide (And.intro htk (And.intro (List.take_succ_eq_append_getElem h3) (List.take_succ_eq_append_getElem h4)))
        have HE := hide (fun h : ps = qs => (by subst h; rfl : ps[j] = qs[j]'h4))
        have hji : (j : Int) < (n : Int) := by omega
        clear hr hs htk hl hk hr' hs' hP hQ
        generalize l[j] = r at *
        generalize k[j] = s at *
        generalize ps[j] = p at *
        generalize qs[j] = q at *
        obtain ⟨⟨e1, e2, e3⟩, en, ec, er⟩ := hP'
        obtain ⟨⟨f1, f2, f3⟩, fn, fc, fr⟩ := hQ'
        have HV := hide (show (p = q) ↔ (p.path = q.path ∧ (r.x = s.x ∧ r.y = s.y) ∧ r.text = s.text) from by rw [Pl.ext_iff', e1, e2, e3, f1, f2, f3])
        have hn1 : r.n ≤ 9223372036854775807 := by omega
        have hn2 : s.n ≤ 9223372036854775807 := by omega
        clear e1 e2 e3 f1 f2 f3
        have ER := hide (And.intro er fr)
        clear er fr
        by_cases c1 : r.x = s.x ∧ r.y = s.y
        · have q1 : ∀ w, (binOp .neq 34 (.agg #[.int .i64 r.x, .int .i64 r.y]) (.agg #[.int .i64 s.x, .int .i64 s.y])).run Try.prog w = .ok (.bool false) w := fun w => by rw [neqPl]; simp [c1]
          by_cases c2 : r.text = s.text
          · have q2 : (r.text.toList == s.text.toList) = true := by simp [c2]
            by_cases c3 : p.path = q.path
            · have D : Hid (decide (p.path = q.path) = true) := hide (by simpa using c3)
              have EQ := hide (HV.out.2 ⟨c3, c1, c2⟩)
              clear c1 c2 c3
              go_wp2_with fail
              refine wp_region_bw wr (Below.refl _ _) (by kernel_rfl) (by kernel_rfl) ?_
              repeat (go_big_quiet_step ((go_at_call 14; exact bw_call (c_rIntsv D.out _ _ _ _ _ _ _ hn1 hn2 (ER.out.1.to' (BW.ok _)) (ER.out.2.to' (BW.ok _))))))
              refine wpQuiet_nil ?_
              intro w5 hb5
              go_wp2_with fail
              go_roundw
              case rel =>
                obtain ⟨h1, h2, h3⟩ := H.out
                exact ⟨j + 1, by omega, by go_num, by rw [h2, h3, h1, EQ.out], bthen hb hb5⟩
              case measure => simp [intOf]; omega
            · have D : Hid (decide (p.path = q.path) = false) := hide (by simpa using c3)
              have NE := hide (fun h => c3 (HV.out.1 h).1)
              clear c1 c2 c3
              go_wp2_with fail
              refine wp_region_bw wr (Below.refl _ _) (by kernel_rfl) (by kernel_rfl) ?_
              repeat (go_big_quiet_step ((go_at_call 14; exact bw_call (c_rIntsv D.out _ _ _ _ _ _ _ hn1 hn2 (ER.out.1.to' (BW.ok _)) (ER.out.2.to' (BW.ok _))))))
              refine wpQuiet_nil ?_
              intro w5 hb5
              go_wp2_with fail
              go_ret
              exact ⟨ret_bool (by rw [eq_comm, decide_eq_false_iff_not]; exact fun h => NE.out (HE.out h)), bthen hb hb5⟩
          · have q2 : (r.text.toList == s.text.toList) = false := by rw [beq_eq_false_iff_ne]; exact fun h => c2 ((text_iff _ _).1 h)
            have NE := hide (fun h => c2 (HV.out.1 h).2.2)
            clear c1 c2
            go_wp2_with fail
            refine wp_region_bw wr (Below.refl _ _) (by kernel_rfl) (by kernel_rfl) ?_
            repeat (go_big_quiet_step ((go_at_call 14; exact bw_call (c_rIntsv D.out _ _ _ _ _ _ _ hn1 hn2 (ER.out.1.to' (BW.ok _)) (ER.out.2.to' (BW.ok _))))))
            refine wpQuiet_nil ?_
            intro w5 hb5
            go_wp2_with fail
            go_ret
            exact ⟨ret_bool (by rw [eq_comm, decide_eq_false_iff_not]; exact fun h => NE.out (HE.out h)), bthen hb hb5⟩
        · have q1 : ∀ w, (binOp .neq 34 (.agg #[.int .i64 r.x, .int .i64 r.y]) (.agg #[.int .i64 s.x, .int .i64 s.y])).run Try.prog w = .ok (.bool true) w := fun w => by rw [neqPl]; simp [c1]
          have NE := hide (fun h => c1 (HV.out.1 h).2.1)
          clear c1
          go_wp2_with fail
          refine wp_region_bw wr (Below.refl _ _) (by kernel_rfl) (by kernel_rfl) ?_
          repeat (go_big_quiet_step ((go_at_call 14; exact bw_call (c_rIntsv D.out _ _ _ _ _ _ _ hn1 hn2 (ER.out.1.to' (BW.ok _)) (ER.out.2.to' (BW.ok _))))))
          refine wpQuiet_nil ?_
          intro w5 hb5
          go_wp2_with fail
          go_ret
          exact ⟨ret_bool (by rw [eq_comm, decide_eq_false_iff_not]; exact fun h => NE.out (HE.out h)), bthen hb hb5⟩
      · have H := hide htk
        clear htk hr hs hl hk hP hQ
        go_wp2
        go_ret
        have h := H.out
        obtain ⟨⟨hl, hlp⟩, hk, hkq⟩ := HL.out
        rw [List.take_of_length_le (by omega), List.take_of_length_le (by omega)] at h
        exact ⟨ret_bool (by rw [decide_eq_true h]), hb⟩
  · have hb0 : ((n : Int) != (m : Int)) = true := by simp; omega
    have HL := hide (And.intro (And.intro hl hlp) (And.intro (And.intro hk hkq) hlen))
    clear hl hk hlp hkq hlen hr hs hP hQ
    go_enter Try.func26, Try.ntmps26
    go_wp2
    go_ret
    exact ⟨ret_bool (by obtain ⟨⟨hl, hlp⟩, ⟨hk, hkq⟩, hne⟩ := HL.out; rw [eq_comm, decide_eq_false_iff_not]; rintro rfl; omega), Below.refl _ _⟩
end Go.Proofs.Ytncdombfhcfobaa
