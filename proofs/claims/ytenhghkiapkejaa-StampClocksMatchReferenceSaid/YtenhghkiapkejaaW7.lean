/- Contract of When; what the map of a list of skews holds. -/
import Derived.Test.YtenhghkiapkejaaW6
namespace Go.Proofs.Ytenhghkiapkejaa
open Go.RowKit
theorem SlR.to {w w' : World} {k n : Nat} {A : Option Addr} {xs : List Value} (h : SlR w w.heap.size k A n xs) (hb : Below w.heap.size w w') : SlR w' w'.heap.size k A n xs := (h.below hb).more hb.size
/-- what the map of a list of skews holds of a person: the last one's bounds -/
def bndF : List I3 → Int → Option I2
  | [], _ => none
  | s :: l, p => (bndF l p).or (if s.1 = p then some (s.2.1, s.2.2) else none)
theorem bndF_append (l m : List I3) (p : Int) : bndF (l ++ m) p = (bndF m p).or (bndF l p) := by
  induction l with
  | nil => simp [bndF]
  | cons s l ih => simp only [List.cons_append, bndF, ih, Option.or_assoc]
theorem foldl_bp (l : List I3) (p : Int) : ∀ L, (l.foldl (fun L s => putL s.1 (.agg #[.int .i64 s.2.1, .int .i64 s.2.2]) L) L).lookup p = ((bndF l p).map fun b => (.agg #[.int .i64 b.1, .int .i64 b.2] : Value)).or (L.lookup p) := by
  induction l with
  | nil => intro L; simp [bndF]
  | cons s l ih =>
    intro L
    simp only [List.foldl_cons, ih, lookup_putL, bndF]
    cases bndF l p with
    | some b => simp
    | none =>
      by_cases h : p = s.1
      · simp [h]
      · have h' : ¬ s.1 = p := fun e => h e.symm
        simp [h, h']
theorem bpL_lookup (l : List I3) (p : Int) : (bpL l).lookup p = (bndF l p).map fun b => (.agg #[.int .i64 b.1, .int .i64 b.2] : Value) := by
  unfold bpL
  rw [foldl_bp]
  simp

/-- what When comes to -/
def whenS (l : List I3) (p t : Int) : Option I2 :=
  match bndF l p with
  | some b => if inB t 0 1000000 && skOk (-1) l then some (t - b.2, t - b.1 + 1) else none
  | none => none
def whenV (o : Option I2) : Value :=
  match o with
  | some s => .tuple #[.agg #[.int .i64 s.1, .int .i64 s.2], .int .i64 0]
  | none => .tuple #[.agg #[.int .i64 0, .int .i64 0], .int .i64 60]
theorem zv88 (w : World) : (zeroValue 88).run Try.prog w = .ok (.agg #[.int .i64 0, .int .i64 0]) w := by kernel_rfl
theorem skOk_bnd : ∀ (q : Int) (l : List I3) (p : Int) (b : I2), skOk q l = true → bndF l p = some b → -100000 ≤ b.1 ∧ b.1 ≤ b.2 ∧ b.2 ≤ 100000 ∧ q + 1 ≤ p ∧ p ≤ 39
  | _, [], _, _, _, h => by simp [bndF] at h
  | q, s :: l, p, b, hs, h => by
    simp only [skOk, Bool.and_eq_true, decide_eq_true_eq, inB_iff] at hs
    simp only [bndF] at h
    cases hl : bndF l p with
    | some c =>
      rw [hl] at h
      simp at h
      subst h
      have := skOk_bnd s.1 l p c hs.2.2.2.2 hl
      omega
    | none =>
      rw [hl] at h
      by_cases hp : s.1 = p
      · simp [hp] at h
        subst h
        simp only []
        omega
      · simp [hp] at h

set_option maxRecDepth 100000 in
set_option maxHeartbeats 400000 in
theorem f29 (A : Option Addr) (l : List I3) (c : Nat) (p t : Int) (w : World) (hn : l.length ≤ c) (hc : c ≤ 9223372036854775807) (hr : SlR w w.heap.size 3 A l.length (l.flatMap c3)) :
    Calls Try.prog 29 #[.slice A l.length c, .int .i64 p, .int .i64 t] w fun e w' => e = .returned (whenV (whenS l p t)) ∧ Below w.heap.size w w' := by
  go_enter Try.func29, Try.ntmps29
  go_wp2_with fail
  refine (f45 A l c _ hn hc (hr.to (balloc (Below.refl _ _) _))).mono ?_
  rintro e w1 ⟨b, rfl, hbb, him, hb1⟩
  have hq := (Blk.new w 56 [.int .i64 0, .int .i64 0]).below hb1 (by simp)
  have hlk := bpL_lookup l p
  have hb2 := bthen (balloc (Below.refl _ _) _) hb1
  have hr1 := hr.to hb2
  clear hr hb1
  cases hl : bndF l p with
  | none =>
    rw [hl] at hlk
    simp only [Option.map_none] at hlk
    have hw : whenS l p t = none := by simp [whenS, hl]
    obtain ⟨x0, x1, x2, x3⟩ := hq.all2
    have hql := hq.lt
    have HQ := hide hq
    have H := hide (And.intro hlk hw)
    clear hlk hl hw hr1 hq
    go_wp2_with (at_lookup; refine wpList_lookup_im rfl _ _ 84 true rfl 3 88 _ Try.underlying84 Try.underlying3 (zv88 _) rfl him _ rfl (.tuple #[.agg #[.int .i64 0, .int .i64 0], .bool false]) (by rw [H.out.1]; rfl) ?_)
    obtain ⟨y0, y1, _, _⟩ := (((HQ.out.set 0 (.int .i64 0)).set 1 (.int .i64 0)).alloc (.cells #[.int .i64 0, .int .i64 0] 88)).all2
    refine bodyPost_ret (v := .tuple #[.agg #[.int .i64 0, .int .i64 0], .int .i64 60]) (by simp [results, Try.results29, go_sem, y0, y1]) rfl ⟨?_, ?_⟩
    · rw [H.out.2]; rfl
    · exact balloc (bset (bset hb2 (by simp) _) (by simp) _) _
  | some bb =>
    obtain ⟨lo, hi⟩ := bb
    rw [hl] at hlk
    simp only [Option.map_some] at hlk
    have hw : whenS l p t = if inB t 0 1000000 && skOk (-1) l then some (t - hi, t - lo + 1) else none := by simp [whenS, hl]
    have hbd := fun hs => skOk_bnd (-1) l p _ hs hl
    simp only [] at hbd
    have H := hide (And.intro hlk (And.intro hw hbd))
    have HQ := hide hq
    obtain ⟨x0, x1, x2, x3⟩ := hq.all2
    have hql := hq.lt
    clear hlk hl hw hbd hq
    by_cases ht : inB t 0 1000000 = true
    · have htt := inB_iff.1 ht
      obtain ⟨ht1, ht2⟩ := htt
      by_cases hsk : skOk (-1) l = true
      · obtain ⟨hl1, hl2, hl3, _, _⟩ := H.out.2.2 hsk
        go_wp2_with (first | (at_lookup; refine wpList_lookup_im rfl _ _ 84 true rfl 3 88 _ Try.underlying84 Try.underlying3 (zv88 _) rfl him _ rfl (.tuple #[.agg #[.int .i64 lo, .int .i64 hi], .bool true]) (by rw [H.out.1]; rfl) ?_) | (go_at_call 40; refine (f40 _ _).mono ?_; rintro e w' ⟨rfl, rfl⟩))
        refine (f44 A l c _ hn hc (hr1.to (balloc (Below.refl _ _) _))).mono ?_
        rintro e w2 ⟨rfl, hb3⟩
        have hz := (Blk.new w1 88 [.int .i64 lo, .int .i64 hi]).below hb3 (by simp)
        have hq2 := (HQ.out.alloc _).below hb3 (by simp; omega)
        have hb4 := bthen (balloc hb2 _) hb3
        obtain ⟨z0, z1, _, _⟩ := hz.all2
        obtain ⟨x0, x1, x2, x3⟩ := hq2.all2
        have hql2 := hq2.lt
        have HQ2 := hide hq2
        clear hb3 hz hq2
        go_wp2
        obtain ⟨y0, y1, _, _⟩ := (((HQ2.out.set 0 (.int .i64 (t - hi))).set 1 (.int .i64 (t - lo + 1)))).all2
        refine bodyPost_ret (v := .tuple #[.agg #[.int .i64 (t - hi), .int .i64 (t - lo + 1)], .int .i64 0]) (by simp [results, Try.results29, go_sem, y0, y1]) rfl ⟨?_, ?_⟩
        · rw [H.out.2.1, ht, hsk]; rfl
        · exact (bset (bset hb4 (by simp) _) (by simp) _)
      · have hsk' : skOk (-1) l = false := by simpa using hsk
        go_wp2_with (first | (at_lookup; refine wpList_lookup_im rfl _ _ 84 true rfl 3 88 _ Try.underlying84 Try.underlying3 (zv88 _) rfl him _ rfl (.tuple #[.agg #[.int .i64 lo, .int .i64 hi], .bool true]) (by rw [H.out.1]; rfl) ?_) | (go_at_call 40; refine (f40 _ _).mono ?_; rintro e w' ⟨rfl, rfl⟩))
        refine (f44 A l c _ hn hc (hr1.to (balloc (Below.refl _ _) _))).mono ?_
        rintro e w2 ⟨rfl, hb3⟩
        have hq2 := (HQ.out.alloc _).below hb3 (by simp; omega)
        have hb4 := bthen (balloc hb2 _) hb3
        obtain ⟨x0, x1, x2, x3⟩ := hq2.all2
        have hql2 := hq2.lt
        have HQ2 := hide hq2
        clear hb3 hq2 hsk
        go_wp2
        obtain ⟨y0, y1, _, _⟩ := (((HQ2.out.set 0 (.int .i64 0)).set 1 (.int .i64 0))).all2
        refine bodyPost_ret (v := .tuple #[.agg #[.int .i64 0, .int .i64 0], .int .i64 60]) (by simp [results, Try.results29, go_sem, y0, y1]) rfl ⟨?_, ?_⟩
        · rw [H.out.2.1, hsk']; simp [whenV]
        · exact (bset (bset hb4 (by simp) _) (by simp) _)
    · have ht' : inB t 0 1000000 = false := by simpa using ht
      go_wp2_with (first | (at_lookup; refine wpList_lookup_im rfl _ _ 84 true rfl 3 88 _ Try.underlying84 Try.underlying3 (zv88 _) rfl him _ rfl (.tuple #[.agg #[.int .i64 lo, .int .i64 hi], .bool true]) (by rw [H.out.1]; rfl) ?_) | (go_at_call 40; refine (f40 _ _).mono ?_; rintro e w' ⟨rfl, rfl⟩))
      obtain ⟨y0, y1, _, _⟩ := (((HQ.out.set 0 (.int .i64 0)).set 1 (.int .i64 0)).alloc (.cells #[.int .i64 lo, .int .i64 hi] 88)).all2
      refine bodyPost_ret (v := .tuple #[.agg #[.int .i64 0, .int .i64 0], .int .i64 60]) (by simp [results, Try.results29, go_sem, y0, y1]) rfl ⟨?_, ?_⟩
      · rw [H.out.2.1, ht']; simp [whenV]
      · exact balloc (bset (bset hb2 (by simp) _) (by simp) _) _
end Go.Proofs.Ytenhghkiapkejaa
