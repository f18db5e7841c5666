/- A range over a function whose loop is told what lies in memory behind each value that comes; a round leaves alone all but the rows of places. -/
import Derived.Test.YtncdombfhcfobaaM27
import Derived.RangeFuncNested
import Derived.RangeFuncLeaves
namespace Go.Proofs.Ytncdombfhcfobaa
open Go.RowKit
/-- no row of places -/
def plainO : Obj → Bool
  | .cells _ t _ => decide (t ≠ 62)
  | _ => true
/-- all that lay below n0 lies as it lay, and from n1 on every block but the rows of places -/
structure Kee (n0 n1 : Nat) (A B : World) : Prop where
  below : Below n0 A B
  keep : ∀ (k : Nat) (o : Obj), n1 ≤ k → A.heap[k]? = some o → plainO o = true → B.heap[k]? = some o
theorem Kee.refl (n0 n1 : Nat) (A : World) : Kee n0 n1 A A := ⟨Below.refl _ _, fun _ _ _ h _ => h⟩
theorem Kee.trans {n0 n1 : Nat} {A B C : World} (h : Kee n0 n1 A B) (k : Kee n0 n1 B C) : Kee n0 n1 A C :=
  ⟨h.below.trans k.below, fun i o hi ha hp => k.keep i o hi (h.keep i o hi ha hp) hp⟩
theorem Kee.of_below {n0 n1 : Nat} {A B : World} (hn : n0 ≤ A.heap.size) (h : Below A.heap.size A B) : Kee n0 n1 A B :=
  ⟨h.mono hn, fun i _ _ ha _ => (h.block i (Array.getElem?_eq_some_iff.1 ha).1).trans ha⟩
theorem Kee.up {n0 n1 m : Nat} {A B : World} (h : Kee n0 n1 A B) (hn : n1 ≤ m) : Kee n0 m A B := ⟨h.below, fun k o hk ha hp => h.keep k o (by omega) ha hp⟩
theorem putObj_below (n : Nat) (W : World) (l : Nat) (o : Obj) (h : n ≤ l) : Below n W (W.putObj l o) :=
  ⟨rfl, rfl, rfl, by simp, fun k hk => World.putObj_heap_other (by omega)⟩
theorem Kee.put {n0 l : Nat} (A : World) (o : Obj) (h : n0 ≤ l) : Kee n0 (l + 1) A (A.putObj l o) :=
  ⟨putObj_below n0 A l o h, fun k u hk ha _ => (World.putObj_heap_other (by omega)).trans ha⟩
/-- a record that is turned and turned back -/
theorem Kee.back {n0 n1 l : Nat} {A B : World} {o o' : Obj} (hl : A.heap[l]? = some o) (hn : n0 ≤ l) (h : Kee n0 n1 (A.putObj l o') B) (hB : l < B.heap.size) : Kee n0 n1 A (B.putObj l o) := by
  refine ⟨((putObj_below n0 A l o' hn).trans h.below).trans (putObj_below n0 B l o hn), fun k u hk ha hp => ?_⟩
  by_cases e : k = l
  · subst e
    rw [hl] at ha
    injection ha with ha
    subst ha
    exact World.putObj_heap_same hB
  · rw [World.putObj_heap_other e]
    exact h.keep k u hk ((World.putObj_heap_other e).trans ha) hp
/-- what a sequence promises its loop: each value comes with G of it in that world -/
def SeqG {α : Type} (F : Fence) (n : Nat) (P : Program) (g : Nat) (lb : Array Value) (encs : α → Array Value) (n0 n1 : Nat) (G : α → World → Prop) (S Sp : List α → Prop) (w : World) : Prop :=
  ∀ (l : Nat) (J Jx : List α → World → Prop) (W : World), l < W.heap.size → Below w.heap.size w W → OwnFrom W.heap.size J → OwnFrom W.heap.size Jx →
    (∀ pre x W1, J pre W1 → G x W1 → Sp (pre ++ [x]) → YieldAt F (n - 1) P l (encs x) W1 fun e W' =>
      (e = .returned (.bool true) ∧ J (pre ++ [x]) W' ∧ Kee n0 n1 W1 W') ∨ (e = .returned (.bool false) ∧ Jx (pre ++ [x]) W' ∧ Kee n0 (l + 1) W1 W')) →
    J [] W →
    CallsIn F n P g (#[.func (.yield l) #[] #[]] ++ lb) W fun e W' => (∃ v, e = .returned v) ∧ ((∃ xs, S xs ∧ J xs W') ∨ (∃ pre, Jx pre W'))
/-- how the body may be left -/
def postR {α : Type} (n0 n1 B : Nat) (I Ix : List α → World → Prop) (xs : List α) (W : World) : Exit → Act → World → Prop
  | .normal, _, W' => Kee n0 n1 W W' ∧ I xs W'
  | .ret, _, W' => Kee n0 B W W' ∧ Ix xs W'
  | _, _, _ => False
theorem range_G {F : Fence} {n : Nat} {P : Program} {α : Type} {g : Operand} {ps : Array Tmp} {assign body : Code} {Q : Exit → Act → World → Prop} {a : Act} {w : World}
    (hro : F.round = none) (h1 : 1 ≤ n) {gf : Nat} {lb : Array Value} (hg : a.eval g = .func (.func gf) #[] lb) (hFg : F.fn gf) (eg : ∀ args w, (callFunc gf args).run P w = .ok (.enter gf args) w)
    {encs : α → Array Value} {n0 n1 : Nat} {G : α → World → Prop} {S Sp : List α → Prop} {w0 : World} (hn0 : n0 ≤ w.heap.size) (hn1 : n1 ≤ w.heap.size)
    (hseq : SeqG F (n - 1) P gf lb encs n0 n1 G S Sp w0) (hb0 : Below w0.heap.size w0 w) (hps : ∀ x, (encs x).size = ps.size)
    (I Ix : List α → World → Prop) (hI : OwnFrom w.heap.size I) (hIx : OwnFrom w.heap.size Ix) (h0 : I [] w) (Ax : α → Act → World → Prop) (hAx : ∀ x a', OwnFrom w.heap.size (fun (_ : Unit) W => Ax x a' W))
    (hassign : ∀ (l : Nat) (pre : List α) (x : α) (W : World) (K : Act → World → Prop), I pre W → G x W → (∀ a' W', Kee n0 n1 W W' → I pre W' → Ax x a' W' → K a' W') →
      assign.wpIn (F.inRound l) (n - 1 - 1) P (Exit.then K (fun _ _ _ => False)) { tmps := (ps.zip (encs x)).foldl (fun t (p, v) => t.setIfInBounds p v) a.tmps, defers := [] } W)
    (hbody : ∀ (l : Nat) (pre : List α) (x : α) (a' : Act) (W : World), w.heap.size ≤ l → (∃ r, W.heap[l]? = some (.loop r)) → I pre W → Ax x a' W → Sp (pre ++ [x]) →
      body.wpIn (F.inRound l) (n - 1 - 1) P (postR n0 n1 w.heap.size I Ix (pre ++ [x]) W) a' W)
    (hdone : ∀ (D : Nat) (xs : List α) (W : World), w.heap.size ≤ D → S xs → I xs W → W.heap[D]? = some (.deferred (some [])) → Q .normal { a with defers := { target := .collected D, args := #[] } :: a.defers } W)
    (hstop : ∀ (D : Nat) (pre : List α) (W : World), w.heap.size ≤ D → Ix pre W → W.heap[D]? = some (.deferred (some [])) → Code.ret.wpIn F n P Q { a with defers := { target := .collected D, args := #[] } :: a.defers } W) :
    (Code.rangeFunc g ps assign body).wpIn F n P Q a w := by
  refine wpIn_rangeFunc fun fn hfn => ?_
  rw [hro]
  -- the record in its states
  obtain ⟨rc, hrc⟩ : ∃ rc : LoopState → Option Code → Loop, ∀ st pe, rc st pe = { state := st, pending := pe, fn, tmps := a.tmps, params := ps, assign, body, defers := w.heap.size } := ⟨fun st pe => _, fun _ _ => rfl⟩
  have hst : ∀ st pe st', { rc st pe with state := st' } = rc st' pe := fun st pe st' => by rw [hrc, hrc]
  have hsp : ∀ st pe st' pe', { rc st pe with state := st', pending := pe' } = rc st' pe' := fun st pe st' pe' => by rw [hrc, hrc]
  obtain ⟨V, hV⟩ : ∃ V, (w.alloc (.deferred (some []))).alloc (.loop (rc .ready none)) = V := ⟨_, rfl⟩
  have hVl : V.heap[w.heap.size + 1]? = some (.loop (rc .ready none)) := by
    have h := World.alloc_heap_new (w.alloc (.deferred (some []))) (.loop (rc .ready none))
    rw [World.size_alloc, hV] at h
    exact h
  have hVd : V.heap[w.heap.size]? = some (.deferred (some [])) := by
    have h := (Below.heap_alloc (w.alloc (.deferred (some []))) (.loop (rc .ready none)) w.heap.size (by simp)).trans (World.alloc_heap_new w _)
    rw [hV] at h
    exact h
  have hVs : V.heap.size = w.heap.size + 1 + 1 := by rw [← hV]; simp
  have hVI : I [] V := by rw [← hV]; exact hI.alloc _ (hI.alloc _ h0)
  have hVb : Below w0.heap.size w0 V := by
    rw [← hV]
    exact hb0.trans ((balloc (balloc (Below.refl _ w) _) _).mono hb0.size)
  refine ⟨w.heap.size + 1, [{ target := .collected w.heap.size, args := #[] }], V, { target := .fn (.func gf) lb, args := #[.func (.yield (w.heap.size + 1)) #[] #[]] }, V, gf, #[.func (.yield (w.heap.size + 1)) #[] #[]] ++ lb, V, ?_, ?_, ?_, ?_, fun _ => h1, ?_⟩
  · rw [← hV, hrc]; exact run_enterLoop_outer _ _ _ _ _
  · simp only [resolve, hg]
    simp [go_sem]
  · intro f' hf'; simp [Target.leads] at hf'; subst hf'; exact hFg
  · simp [invoke, go_sem, eg]
  · have own : ∀ (A : World) (row : Option Nat), (∀ r, row = some r → V.heap.size ≤ r ∧ ∃ o : Obj, A.heap[r]? = some o ∧ o.isCells = false) → (∀ r, row = some r → w.heap.size ≤ r ∧ ∃ o : Obj, A.heap[r]? = some o ∧ o.isCells = false) :=
      fun A row hr r e => ⟨by have := (hr r e).1; omega, (hr r e).2⟩
    have still : ∀ (A B : World) (row : Option Nat) (k : Nat) (o : Obj), k < V.heap.size → A.heap[k]? = some o → A.grownBy B row → (∀ r, row = some r → V.heap.size ≤ r ∧ ∃ o : Obj, A.heap[r]? = some o ∧ o.isCells = false) → B.heap[k]? = some o :=
      fun A B row k o hk ha hgr hr => (hgr.block k (Array.getElem?_eq_some_iff.1 ha).1 (fun e => by have := (hr k e.symm).1; omega)).trans ha
    refine (hseq (w.heap.size + 1)
      (fun pre W => I pre W ∧ W.heap[w.heap.size + 1]? = some (.loop (rc .ready none)) ∧ W.heap[w.heap.size]? = some (.deferred (some [])))
      (fun pre W => Ix pre W ∧ W.heap[w.heap.size + 1]? = some (.loop (rc .done (some .ret))) ∧ W.heap[w.heap.size]? = some (.deferred (some [])))
      V (by omega) hVb
      (fun s A B row hs hgr hr => ⟨hI s A B row hs.1 hgr (own A row hr), still A B row _ _ (by omega) hs.2.1 hgr hr, still A B row _ _ (by omega) hs.2.2 hgr hr⟩)
      (fun s A B row hs hgr hr => ⟨hIx s A B row hs.1 hgr (own A row hr), still A B row _ _ (by omega) hs.2.1 hgr hr, still A B row _ _ (by omega) hs.2.2 hgr hr⟩)
      ?_ ⟨hVI, hVl, hVd⟩).mono ?_
    · rintro pre x W ⟨hi, hl, hd⟩ hG hlen
      have hy := run_yield (P := P) (args := encs x) hl (by rw [hrc]; exact hps x)
      rw [hrc] at hy
      refine ⟨fn, _, assign, body, hy, roundIn_of_wpIn hfn (hassign _ pre x W _ hi hG ?_)⟩
      clear hy
      intro a' W' hk hi' hax
      have hl' := hk.keep _ _ (by omega) hl rfl
      have hd' := hk.keep _ _ hn1 hd rfl
      have hw' : w.heap.size + 1 < W'.heap.size := (Array.getElem?_eq_some_iff.1 hl').1
      refine ⟨_, run_beginRound hl' (by rw [hrc]), ?_⟩
      rw [hst]
      have hlB : (W'.putObj (w.heap.size + 1) (.loop (rc .busy none))).heap[w.heap.size + 1]? = some (.loop (rc .busy none)) := World.putObj_heap_same hw'
      have hdB : (W'.putObj (w.heap.size + 1) (.loop (rc .busy none))).heap[w.heap.size]? = some (.deferred (some [])) := (World.putObj_heap_other (by omega)).trans hd'
      refine wpIn_mono (hbody _ pre x a' _ (by omega) ⟨_, hlB⟩ (hI.putObj _ hi' (by omega) hl' rfl) ((hAx x a').putObj (s := ()) _ hax (by omega) hl' rfl) hlen) ?_
      rintro e a3 W3 hp
      cases e with
      | normal =>
        obtain ⟨hk3, hi3⟩ := hp
        have hl3 := hk3.keep _ _ (by omega) hlB rfl
        have hd3 := hk3.keep _ _ hn1 hdB rfl
        have hw3 := (Array.getElem?_eq_some_iff.1 hl3).1
        have hend := run_endRound (P := P) none hl3
        rw [hsp] at hend
        simp only [Option.isNone_none, if_true] at hend
        exact ⟨_, _, hend, .inl ⟨rfl, ⟨hI.putObj _ hi3 (by omega) hl3 rfl, World.putObj_heap_same hw3, (World.putObj_heap_other (by omega)).trans hd3⟩, hk.trans (Kee.back hl' (by omega) hk3 hw3)⟩⟩
      | ret =>
        obtain ⟨hk3, hi3⟩ := hp
        have hl3 := hk3.keep _ _ (by omega) hlB rfl
        have hd3 := hk3.keep _ _ (Nat.le_refl _) hdB rfl
        have hw3 := (Array.getElem?_eq_some_iff.1 hl3).1
        have hend := run_endRound (P := P) (some .ret) hl3
        rw [hsp] at hend
        simp only [Option.isNone_some, Bool.false_eq_true, if_false] at hend
        exact ⟨_, _, hend, .inr ⟨rfl, ⟨hIx.putObj _ hi3 (by omega) hl3 rfl, World.putObj_heap_same hw3, (World.putObj_heap_other (by omega)).trans hd3⟩, (((hk.up (by omega)).trans (Kee.put W' _ (by omega))).trans (hk3.up (by omega))).trans (Kee.put W3 _ (by omega))⟩⟩
      | _ => exact hp.elim
    · rintro e W2 ⟨⟨v, rfl⟩, (⟨xs, hS, hi, hl, hd⟩ | ⟨pre, hi, hl, hd⟩)⟩
      · have hend := run_endLoop (P := P) hl (by rw [hrc]; simp)
        rw [hrc] at hend
        exact ⟨none, _, hend, hdone _ xs _ (Nat.le_refl _) hS (hI.putObj _ hi (by omega) hl rfl) ((World.putObj_heap_other (by omega)).trans hd)⟩
      · have hend := run_endLoop (P := P) hl (by rw [hrc]; simp)
        rw [hrc] at hend
        exact ⟨some .ret, _, hend, hstop _ pre _ (Nat.le_refl _) (hIx.putObj _ hi (by omega) hl rfl) ((World.putObj_heap_other (by omega)).trans hd)⟩
end Go.Proofs.Ytncdombfhcfobaa
/- What an instance comes to, in plain words; what abides a round. -/
namespace Go.Proofs.Ytncdombfhcfobaa
open Go.RowKit
section
variable {n0 n1 : Nat} {A B : World}
theorem own_kee {b n k : Nat} {e : TypeId} {v : Value} {xs : List Value} (h : A.ownsRow b e k v n xs) (hK : Kee n0 n1 A B) (hb : n1 ≤ b) (he : e ≠ 62 := by decide) : B.ownsRow b e k v n xs := by
  refine ⟨h.1, ?_⟩
  rcases h.2 with h | ⟨g, c', cur, q1, q2, q3, q4⟩
  · exact .inl h
  · exact .inr ⟨g, c', cur, q1, q2, hK.keep g _ (by omega) q3 (by simpa [plainO] using he), q4⟩
theorem Blk.kee {g : Nat} {t : TypeId} {cs : List Value} (h : Blk A g t cs) (hK : Kee n0 n1 A B) (hg : n1 ≤ g) (ht : t ≠ 62 := by decide) : Blk B g t cs := hK.keep g _ hg h (by simpa [plainO] using ht)
/-- a slice that is read, in a block that the rounds leave alone -/
def RdK (n0 n1 : Nat) (W : World) (k : Nat) (a : Option Addr) (n : Nat) (xs : List Value) : Prop :=
  SlR W W.heap.size k a n xs ∧ (0 < n → ∀ p, a = some p → p.block < n0 ∨ n1 ≤ p.block ∧ ∃ o, W.heap[p.block]? = some o ∧ plainO o = true)
theorem RdK.kee {k n : Nat} {a : Option Addr} {xs : List Value} (h : RdK n0 n1 A k a n xs) (hK : Kee n0 n1 A B) : RdK n0 n1 B k a n xs := by
  have hs := hK.below.size
  refine ⟨⟨h.1.1, fun hne => ?_⟩, fun hne p hp => ?_⟩
  · obtain ⟨b, off, ha, hb, hc⟩ := h.1.2 hne
    refine ⟨b, off, ha, by omega, fun j u hu => ?_⟩
    have hcell := hc j u hu
    have hblk : B.heap[b]? = A.heap[b]? := by
      rcases h.2 (by omega) _ ha with h1 | ⟨h1, o, ho, hp⟩
      · exact hK.below.block b h1
      · exact (hK.keep b o h1 ho hp).trans ho.symm
    exact (World.cell?_of_block (w := A) (w' := B) (a := ⟨b, off + j, none⟩) hblk).trans hcell
  · rcases h.2 hne p hp with h1 | ⟨h1, o, ho, hpl⟩
    · exact .inl h1
    · exact .inr ⟨h1, o, hK.keep _ o h1 ho hpl, hpl⟩
theorem RdK.below {k n : Nat} {a : Option Addr} {xs : List Value} (h : RdK n0 n1 A k a n xs) (hb : Below A.heap.size A B) (hn : n0 ≤ A.heap.size) : RdK n0 n1 B k a n xs := h.kee (Kee.of_below hn hb)
theorem RdK.old {k n : Nat} {a : Option Addr} {xs : List Value} (h : SlR A n0 k a n xs) (hn : n0 ≤ A.heap.size) : RdK n0 n1 A k a n xs := by
  refine ⟨h.more hn, fun h0 p hp => ?_⟩
  obtain ⟨b, off, ha, hb, _⟩ := h.2 (by omega)
  rw [ha] at hp; cases hp; exact .inl hb
theorem RdK.own {k n c b : Nat} {e : TypeId} {a : Option Addr} {xs : List Value} (h : A.ownsRow b e k (.slice a n c) n xs) (hb : n1 ≤ b) (he : e ≠ 62 := by decide) : RdK n0 n1 A k a n xs := by
  refine ⟨(own_row h).2.2, fun _ p hp => ?_⟩
  rcases h.2 with h' | ⟨g, c', cur, q1, q2, q3, q4⟩
  · have := h'.1
    simp only [Value.slice.injEq] at this
    rw [this.1] at hp; cases hp
  · simp only [Value.slice.injEq] at q1
    rw [q1.1] at hp; cases hp
    exact .inr ⟨by simp only; omega, _, q3, by simpa [plainO] using he⟩
end
/-- what items come to at a place: boxes, and, ahead of what is in them, inner modules; each with its kind -/
def plc (ms : List Mo) : Nat → List It → List Int → Int → Int → List (Pl × Int)
  | 0, _, _, _, _ => []
  | f + 1, l, path, x, y => l.flatMap fun s => (⟨path ++ [s.id], x + s.x, y + s.y, s.text⟩, s.kind) :: plc ms f (itemsOf ms s.mod) (path ++ [s.id]) (x + s.x) (y + s.y)
/-- f levels are enough -/
def Dp (ms : List Mo) : Nat → List It → Prop
  | 0, l => l = []
  | f + 1, l => ∀ s ∈ l, Dp ms f (itemsOf ms s.mod)
theorem plc_more (ms : List Mo) : ∀ (f : Nat) (l : List It) (path : List Int) (x y : Int), Dp ms f l → plc ms (f + 1) l path x y = plc ms f l path x y
  | 0, l, path, x, y, h => by rw [show l = [] from h]; rfl
  | f + 1, l, path, x, y, h => by
    have key : ∀ s ∈ l, plc ms (f + 1) (itemsOf ms s.mod) (path ++ [s.id]) (x + s.x) (y + s.y) = plc ms f (itemsOf ms s.mod) (path ++ [s.id]) (x + s.x) (y + s.y) := fun s hs => plc_more ms f _ _ _ _ (h s hs)
    show (l.flatMap fun s => (⟨path ++ [s.id], x + s.x, y + s.y, s.text⟩, s.kind) :: plc ms (f + 1) (itemsOf ms s.mod) (path ++ [s.id]) (x + s.x) (y + s.y)) = l.flatMap fun s => (⟨path ++ [s.id], x + s.x, y + s.y, s.text⟩, s.kind) :: plc ms f (itemsOf ms s.mod) (path ++ [s.id]) (x + s.x) (y + s.y)
    clear h
    induction l with
    | nil => rfl
    | cons s l ih =>
      rw [List.flatMap_cons, List.flatMap_cons, key s (by simp), ih (fun t ht => key t (by simp [ht]))]
end Go.Proofs.Ytncdombfhcfobaa
/- Contracts: placed: it makes a function value over four boxes. -/
namespace Go.Proofs.Ytncdombfhcfobaa
open Go.RowKit
theorem c_placed (A B C : Option Addr) (n c m d k e : Nat) (x y : Int) (w : World) :
    Calls Try.prog 44 #[.slice A n c, .slice B m d, .slice C k e, .agg #[.int .i64 x, .int .i64 y]] w fun en w' =>
      en = .returned (.func (.func 66) #[] #[.pointer (some ⟨w.heap.size + 1, 0, none⟩), .pointer (some ⟨w.heap.size + 1 + 1, 0, none⟩), .pointer (some ⟨w.heap.size + 1 + 1 + 1, 0, none⟩), .pointer (some ⟨w.heap.size, 0, none⟩)]) ∧
      w' = (((w.alloc (.cells #[.slice A n c] 42)).alloc (.cells #[.slice B m d] 24)).alloc (.cells #[.slice C k e] 28)).alloc (.cells #[.int .i64 x, .int .i64 y] 34) := by
  go_enter Try.func44, Try.ntmps44
  go_wp2
  go_ret
  exact ⟨rfl, rfl⟩
end Go.Proofs.Ytncdombfhcfobaa
