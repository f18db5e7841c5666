/- Contract: the reference's Rebase. -/
import Derived.Test.YtncdombfhcfobaaGreatG10b
namespace Go.Proofs.YtncdombfhcfobaaGreat
open Go.RowKit Go.Shelf
def rbP (old now : List It) (c : Cp) (n : Nat) : Bool := ((getI c.changes n).isSome || decide ((n : Int) ∈ c.gone)) && (((getI old n).isSome != (getI now n).isSome) || ((getI old n).isSome && !decide (atI' old n = atI' now n)))
def rbF (now : List It) (c : Cp) (n : Nat) : Option It := if ((getI c.changes n).isSome && (!(getI now n).isSome || !decide (atI' c.changes n = atI' now n))) = true then some (atI' c.changes n) else none
def rbG (now : List It) (c : Cp) (n : Nat) : Bool := decide ((n : Int) ∈ c.gone) && (getI now n).isSome
def rbOk (ms : List Mo) (next : Mo) (c : Cp) : Bool := rpOk ms next && validCopyB ms c && decide (next.id = c.mod)
/-- between two rounds -/
structure RbI (w4 : World) (rc : CR) (vch vgo vct : Value) (Lch : List It) (Lgo Lct : List Int) (wr : World) : Prop where
  u : Blk wr w4.heap.size 32 [.int .i64 rc.code, .int .i64 rc.mod, .int .i64 rc.x, .int .i64 rc.y, vch, vgo]
  ch : wr.ownsRow w4.heap.size 27 6 vch Lch.length (Lch.flatMap cI)
  go : wr.ownsRow w4.heap.size 3 1 vgo Lgo.length (Lgo.flatMap cN)
  ct : wr.ownsRow w4.heap.size 3 1 vct Lct.length (Lct.flatMap cN)
  ne : ∀ g, vgo.ownBlock = some g → some g ≠ vct.ownBlock
  b : Below w4.heap.size w4 wr
section
variable {w4 wr wn : World} {rc : CR} {vch vgo vct : Value} {Lch : List It} {Lgo Lct : List Int}
theorem RbI.to (h : RbI w4 rc vch vgo vct Lch Lgo Lct wr) (hb : Below wr.heap.size wr wn) : RbI w4 rc vch vgo vct Lch Lgo Lct wn :=
  ⟨h.u.below hb h.u.lt, own_bel h.ch hb, own_bel h.go hb, own_bel h.ct hb, h.ne, bthen h.b hb⟩
theorem RbI.start (w4 : World) (rc : CR) : RbI w4 rc (.slice none 0 0) (.slice none 0 0) (.slice none 0 0) [] [] [] (w4.alloc (.cells #[.int .i64 rc.code, .int .i64 rc.mod, .int .i64 rc.x, .int .i64 rc.y, .slice none 0 0, .slice none 0 0] 32)) :=
  ⟨Blk.new w4 32 [.int .i64 rc.code, .int .i64 rc.mod, .int .i64 rc.x, .int .i64 rc.y, .slice none 0 0, .slice none 0 0], World.ownsRow_nil _ _ _ _, World.ownsRow_nil _ _ _ _, World.ownsRow_nil _ _ _ _, fun g hg => (by cases hg), balloc (Below.refl _ _) _⟩
theorem keepInt {v v' : Value} {L : List Int} {B : Nat} (h : wr.ownsRow B 3 1 v L.length (L.flatMap cN)) (hg : wr.grownBy wn v'.ownBlock) (hne : ∀ g, v.ownBlock = some g → v'.ownBlock ≠ some g) : wn.ownsRow B 3 1 v L.length (L.flatMap cN) := by
  refine ⟨h.1, ?_⟩
  rcases h.2 with h' | ⟨g, c', cur, q1, q2, q3, q4⟩
  · exact .inl h'
  · exact .inr ⟨g, c', cur, q1, q2, (hg.block g (Array.getElem?_eq_some_iff.1 q3).1 (fun e => hne g (by rw [q1]; rfl) e.symm)).trans q3, q4⟩
/-- one number more that is contested -/
theorem RbI.addCt (h : RbI w4 rc vch vgo vct Lch Lgo Lct wr) {v' : Value} {n : Int} (ho : wn.ownsRow w4.heap.size 3 1 v' (Lct.length + 1) (Lct.flatMap cN ++ cN n)) (hg : wr.grownBy wn vct.ownBlock) (hor : v'.ownBlock = vct.ownBlock ∨ v'.ownBlock = some wr.heap.size) :
    RbI w4 rc vch vgo v' Lch Lgo (Lct ++ [n]) wn := by
  refine ⟨h.u.grown hg (own_neX h.ct h.u), own_two h.ch h.ct (by decide) hg, keepInt h.go hg (fun g e q => h.ne g e q.symm), ?_, fun g hgv he => ?_, h.b.grown hg h.b.size (fun g e => (own_lt h.ct g e).1)⟩
  · rw [List.length_append, flatN_snoc]
    exact ho
  · rcases hor with e | e
    · rw [e] at he; exact h.ne g hgv he
    · rw [e] at he
      simp only [Option.some.injEq] at he
      have := (own_lt h.go g hgv).2
      omega
theorem RbI.addCh (h : RbI w4 rc vch vgo vct Lch Lgo Lct wr) {v' : Value} {s : It} (ho : wn.ownsRow w4.heap.size 27 6 v' (Lch.length + 1) (Lch.flatMap cI ++ cI s)) (hg : wr.grownBy wn vch.ownBlock) :
    RbI w4 rc v' vgo vct (Lch ++ [s]) Lgo Lct (wn.setCell ⟨w4.heap.size, 4, none⟩ v') := by
  have gU := h.u.grown hg (own_neX h.ch h.u)
  have hgo := own_two h.go h.ch (by decide) hg
  have hct := own_two h.ct h.ch (by decide) hg
  refine ⟨gU.set 4 v', ?_, own_setO hgo (own_neX hgo gU) v', own_setO hct (own_neX hct gU) v', h.ne, bset (h.b.grown hg h.b.size (fun g e => (own_lt h.ch g e).1)) (p := ⟨w4.heap.size, 4, none⟩) (Nat.le_refl _) v'⟩
  rw [List.length_append, flatI_snoc]
  exact own_setO ho (own_neX ho gU) v'
theorem RbI.addGo (h : RbI w4 rc vch vgo vct Lch Lgo Lct wr) {v' : Value} {n : Int} (ho : wn.ownsRow w4.heap.size 3 1 v' (Lgo.length + 1) (Lgo.flatMap cN ++ cN n)) (hg : wr.grownBy wn vgo.ownBlock) (hor : v'.ownBlock = vgo.ownBlock ∨ v'.ownBlock = some wr.heap.size) :
    RbI w4 rc vch v' vct Lch (Lgo ++ [n]) Lct (wn.setCell ⟨w4.heap.size, 5, none⟩ v') := by
  have gU := h.u.grown hg (own_neX h.go h.u)
  have hch := own_two h.ch h.go (by decide) hg
  have hct := keepInt h.ct hg (fun g e q => h.ne g q (e.symm))
  refine ⟨gU.set 5 v', own_setO hch (own_neX hch gU) v', ?_, own_setO hct (own_neX hct gU) v', fun g hgv he => ?_, bset (h.b.grown hg h.b.size (fun g e => (own_lt h.go g e).1)) (p := ⟨w4.heap.size, 5, none⟩) (Nat.le_refl _) v'⟩
  · rw [List.length_append, flatN_snoc]
    exact own_setO ho (own_neX ho gU) v'
  · rcases hor with e | e
    · rw [e] at hgv; exact h.ne g hgv he
    · rw [e] at hgv
      simp only [Option.some.injEq] at hgv
      have := (own_lt h.ct g he.symm).2
      omega
end
def RRebasePost (ms : List Mo) (next : Mo) (c : Cp) (w : World) (e : Ending) (w' : World) : Prop :=
  Below w.heap.size w w' ∧ (rbOk ms next c = false ∧ e = .returned (.tuple #[crV zCR, .slice none 0 0, .int .i64 140]) ∨
    rbOk ms next c = true ∧ ∃ q v, e = .returned (.tuple #[crV q, v, .int .i64 0]) ∧ CpR w' q ⟨c.code, c.mod, c.x, c.y, colI (rbF next.items c) 100, colN (rbG next.items c) 100⟩ ∧
      w'.ownsRow w.heap.size 3 1 v (colN (rbP (itemsOf ms c.mod) next.items c) 100).length ((colN (rbP (itemsOf ms c.mod) next.items c) 100).flatMap cN))
set_option linter.unusedSimpArgs false in
set_option maxRecDepth 100000 in
set_option maxHeartbeats 8000000 in
theorem c_rRebase (A : Option Addr) (N cc : Nat) (rows : List MR) (ms : List Mo) (r : MR) (next : Mo) (rc : CR) (c : Cp) (w : World) (hN : N ≤ 100000) (hr : SlR w w.heap.size 2 A N (rows.flatMap cM)) (hm : Mods w rows ms)
    (hid : r.id = next.id) (hnc1 : r.n ≤ r.c) (hnc2 : r.c ≤ 9223372036854775807) (hrs : SlR w w.heap.size 6 r.a r.n (next.items.flatMap cI)) (hC : CpR w rc c) :
    Calls Tryz.prog 26 #[.slice A N cc, mrV r, crV rc] w (RRebasePost ms next c w) := by
  obtain ⟨i0, hi, hz0, hz1, hz2⟩ := info_parts Tryz.infoItem
  obtain ⟨i1, hi1, hy0, hy1, hy2⟩ := info_parts Tryz.infoInt
  have hlq := hrs.lenI
  have hrn : r.n ≤ 9223372036854775807 := by omega
  have gN := ((Blk.new w 37 (cM r)).alloc (.cells (cC rc).toArray 32)).alloc (.cells (cC zCR).toArray 32)
  have gC := (Blk.new (w.alloc (.cells (cM r).toArray 37)) 32 (cC rc)).alloc (.cells (cC zCR).toArray 32)
  have gZ := Blk.new ((w.alloc (.cells (cM r).toArray 37)).alloc (.cells (cC rc).toArray 32)) 32 (cC zCR)
  have hb0 := balloc (balloc (balloc (Below.refl w.heap.size w) (.cells (cM r).toArray 37)) (.cells (cC rc).toArray 32)) (.cells (cC zCR).toArray 32)
  have z1 : (w.alloc (.cells (cM r).toArray 37)).heap.size = w.heap.size + 1 := by simp
  have z2 : ((w.alloc (.cells (cM r).toArray 37)).alloc (.cells (cC rc).toArray 32)).heap.size = w.heap.size + 1 + 1 := by simp
  rw [z1] at gC
  rw [z2] at gZ
  clear z1 z2
  obtain ⟨w0, hw0⟩ : ∃ w0, w0 = ((w.alloc (.cells (cM r).toArray 37)).alloc (.cells (cC rc).toArray 32)).alloc (.cells (cC zCR).toArray 32) := ⟨_, rfl⟩
  rw [← hw0] at gN gC gZ hb0
  have HNX := hide (hrs.to' hb0)
  have hr0 := hr.to' hb0
  have hm0 := hm.to hb0
  have hC0 := hC.to hb0
  have hk := c_rReplace A N cc rows ms r next w0 hN hr0 hm0 hid hnc1 hnc2 HNX.out
  have hm63 : N ≤ 9223372036854775807 := by omega
  have hv0 := fun (W : World) (h : Below w0.heap.size w0 W) => c_rValidCopy A N cc rows ms rc c W hm63 (hr0.to' h) (hm0.to h) (hC0.to h)
  have HV0 := hide hv0
  have HW := hide (And.intro hr0 (And.intro hm0 (And.intro hC0 (And.intro hid hC.1))))
  obtain ⟨z0, z1, z2, z3, z4, z5⟩ := gZ.allC
  obtain ⟨x0, x1, x2, x3, x4, x5⟩ := gC.allC
  obtain ⟨n0, n1⟩ := gN.two
  have HG := hide (And.intro gN (And.intro gC (And.intro gZ hb0)))
  clear hr hm hid hnc1 hnc2 hrs hC hlq gN gC gZ hb0 hr0 hm0 hC0 hv0
  unfold mrV crV at *
  go_enter Tryz.func26, Tryz.ntmps26
  have hw0' : w0 = ((w.alloc (.cells #[.int .i64 r.id, .slice r.a r.n r.c] 37)).alloc (.cells #[.int .i64 rc.code, .int .i64 rc.mod, .int .i64 rc.x, .int .i64 rc.y, .slice rc.a rc.n rc.c, .slice rc.a2 rc.n2 rc.c2] 32)).alloc (.cells #[.int .i64 0, .int .i64 0, .int .i64 0, .int .i64 0, .slice none 0 0, .slice none 0 0] 32) := hw0
  have HW0 := hide hw0'
  clear hw0 hw0'
  go_wp2_with fail
  rw [← HW0.out]
  clear HW0
  refine hk.mono ?_
  clear hk
  rintro e w1 ⟨hb1, hpost⟩
  have gN1 := HG.out.1.below hb1 HG.out.1.lt
  have gC1 := HG.out.2.1.below hb1 HG.out.2.1.lt
  have gZ1 := HG.out.2.2.1.below hb1 HG.out.2.2.1.lt
  have hb01 := bthen HG.out.2.2.2 hb1
  rcases hpost with ⟨hf, rfl⟩ | ⟨ht, A9, n9, k9, rows9, rfl, -⟩
  · have HF := hide (show rbOk ms next c = false by unfold rbOk; rw [hf]; rfl)
    obtain ⟨z0, z1, z2, z3, z4, z5⟩ := gZ1.allC
    have u0 := gZ1.free 0
    have u1 := gZ1.free 1
    have u2 := gZ1.free 2
    have u3 := gZ1.free 3
    have u4 := gZ1.free 4
    have u5 := gZ1.free 5
    have hgl := gZ1.lt
    dsimp only [zCR] at z0 z1 z2 z3 z4 z5
    clear hf gN1 gC1 gZ1 hb1
    go_wp2_with fail
    refine bodyPost_ret (v := .tuple #[.agg #[.int .i64 0, .int .i64 0, .int .i64 0, .int .i64 0, .slice none 0 0, .slice none 0 0], .slice none 0 0, .int .i64 140]) (by simp [results, Tryz.results26, go_sem, z0, z1, z2, z3, z4, z5]) rfl ?_
    exact ⟨reb_end hb01 (by omega) _ _ _ _ _ _, .inl ⟨HF.out, rfl⟩⟩
  · have HT := hide ht
    clear ht
    obtain ⟨n0, n1'⟩ := gN1.two
    obtain ⟨x0, x1, x2, x3, x4, x5⟩ := gC1.allC
    go_wp2_with fail
    refine (HV0.out _ hb1).mono ?_
    rintro e w2 ⟨rfl, hb2⟩
    have gN2 := gN1.below hb2 gN1.lt
    have gC2 := gC1.below hb2 gC1.lt
    have gZ2 := gZ1.below hb2 gZ1.lt
    have hb02 := bthen hb01 hb2
    have hb12 := bthen hb1 hb2
    clear gN1 gC1 gZ1 hb01 hb1 hb2 n0 n1 x0 x1 x2 x3 x4 x5 z0 z1 z2 z3 z4 z5
    obtain ⟨n0, n1'⟩ := gN2.two
    obtain ⟨x0, x1, x2, x3, x4, x5⟩ := gC2.allC
    cases hV : validCopyB ms c with
    | false =>
      have HF := hide (show rbOk ms next c = false by unfold rbOk; rw [hV]; simp)
      clear hV
      obtain ⟨z0, z1, z2, z3, z4, z5⟩ := gZ2.allC
      dsimp only [zCR] at z0 z1 z2 z3 z4 z5
      have u0 := gZ2.free 0
      have u1 := gZ2.free 1
      have u2 := gZ2.free 2
      have u3 := gZ2.free 3
      have u4 := gZ2.free 4
      have u5 := gZ2.free 5
      have hgl := gZ2.lt
      go_wp2_with fail
      refine bodyPost_ret (v := .tuple #[.agg #[.int .i64 0, .int .i64 0, .int .i64 0, .int .i64 0, .slice none 0 0, .slice none 0 0], .slice none 0 0, .int .i64 140]) (by simp [results, Tryz.results26, go_sem, z0, z1, z2, z3, z4, z5]) rfl ?_
      exact ⟨reb_end hb02 (by omega) _ _ _ _ _ _, .inl ⟨HF.out, rfl⟩⟩
    | true =>
      by_cases hne : r.id = rc.mod
      · have hd0 : (r.id != rc.mod) = false := by simp [hne]
        obtain ⟨hr0, hm0, hC0, hid, hcc⟩ := HW.out
        have HOk := hide (show rbOk ms next c = true by unfold rbOk; rw [HT.out, hV]; simp [← hid, hne, hcc.2.1])
        have hr2 := hr0.to' hb12
        have hm2 := hm0.to hb12
        have hC2 := hC0.to hb12
        have hnx2 := HNX.out.to' hb12
        have HFn := hide (show (findM ms c.mod).isSome = true from (vc_parts hV).2.2.1)
        have hidx : ∃ (j : Nat) (hj : j < rows.length), idxF (fun q : MR => decide (q.id = rc.mod)) rows 0 = (j : Int) ∧ rows[j].n ≤ rows[j].c ∧ rows[j].c ≤ 9223372036854775807 ∧ SlR w2 w2.heap.size 6 rows[j].a rows[j].n ((itemsOf ms c.mod).flatMap cI) := by
          rcases idxF_cases (fun q : MR => decide (q.id = rc.mod)) rows 0 with ⟨h1, -, h3⟩ | ⟨j, hj, h1, -, h3, -⟩
          · exfalso
            rcases hm2.find (n := rc.mod) with ⟨-, h⟩ | ⟨q, m2, h, -⟩
            · have := HFn.out
              rw [← hcc.2.1, h] at this
              cases this
            · rw [show fndR rows rc.mod = none from h3] at h; cases h
          · rcases hm2.find (n := rc.mod) with ⟨h, -⟩ | ⟨q, m2, hq, hm2', -, -, p1, p2, p3⟩
            · rw [show fndR rows rc.mod = some rows[j] from h3] at h; cases h
            · rw [show fndR rows rc.mod = some rows[j] from h3] at hq
              injection hq with hq
              subst hq
              refine ⟨j, hj, by rw [h1, Nat.zero_add], p1, p2, ?_⟩
              rw [show itemsOf ms c.mod = m2.items by unfold itemsOf; rw [← hcc.2.1, hm2']]
              exact p3
        obtain ⟨jr, hjr, hjx, hjn, hjc, hsi⟩ := hidx
        obtain ⟨b, off, hAe, hbb, y0, y1⟩ := hr2.atM (Below.refl _ _) hjr
        have hlr := hr2.lenm
        have hjN : jr < N := by omega
        have hjN' : (jr : Int) < (N : Int) := by omega
        have hfd := c_rFind A N cc rows rc.mod w2 hm63 hr2
        rw [hjx] at hfd
        subst hAe
        generalize rows[jr] = q at *
        obtain ⟨qi, qa, qn, qc⟩ := q
        simp only at hjn hjc hsi y0 y1
        have hqn : qn ≤ 9223372036854775807 := by omega
        have hrcn : rc.n ≤ 9223372036854775807 := by have := hC2.2.1; omega
        have hrcn2 : rc.n2 ≤ 9223372036854775807 := by have := hC2.2.2; omega
        have hbe : ∀ W : World, Below w2.heap.size w2 W → Below w.heap.size w W := fun W hW => bthen hb02 hW
        have HM : Hid (∀ W : World, Below w2.heap.size w2 W → (Blk W w.heap.size 37 (cM r) ∧ Blk W (w.heap.size + 1) 32 (cC rc) ∧ Blk W (w.heap.size + 1 + 1) 32 (cC zCR)) ∧
            (CpR W rc c ∧ SlR W W.heap.size 6 qa qn ((itemsOf ms c.mod).flatMap cI) ∧ SlR W W.heap.size 6 r.a r.n (next.items.flatMap cI)) ∧ Below w.heap.size w W) := hide fun W hW =>
          ⟨⟨gN2.below hW gN2.lt, gC2.below hW gC2.lt, gZ2.below hW gZ2.lt⟩, ⟨hC2.to hW, hsi.to' hW, hnx2.to' hW⟩, hbe W hW⟩
        have HZl := hide (show w.heap.size + 1 + 1 < w2.heap.size from gZ2.lt)
        have HCC := hide hcc
        have lC := gC2.lt
        have lN := gN2.lt
        clear hr0 hm0 hC0 hid hcc hr2 hm2 hC2 hnx2 hsi hV hne HW HNX HV0 gN2 gC2 gZ2 hb02 hb12 hjx hlr hbe hjn hjc hjr hjN
        go_wp2_with fail
        refine hfd.mono ?_
        clear hfd
        rintro e w2' ⟨rfl, rfl⟩
        go_wp2_with fail
        have hI0 := RbI.start w2 rc
        clear n0 n1' x0 x1 x2 x3 x4 x5 y0 y1 lC lN
        go_loopw [13, 14] (fun s jv wr => ∃ (k : Nat) (v u : Value), k ≤ 100 ∧ jv = .int .i64 k ∧ RbI w2 rc v u s (colI (rbF next.items c) k) (colN (rbG next.items c) k) (colN (rbP (itemsOf ms c.mod) next.items c) k) wr) (fun _ jv _ => 100 - (intOf jv).toNat)
        case atStart => exact ⟨0, .slice none 0 0, .slice none 0 0, by omega, rfl, hI0⟩
        case round =>
          obtain ⟨k, v, u, hk, rfl, hI⟩ := hrel
          obtain ⟨Av, cv, rfl, -, -, -⟩ := SlR.of_own hI.ch
          obtain ⟨Au, cu, rfl, -, -, -⟩ := SlR.of_own hI.go
          obtain ⟨As, cs, rfl, -, -, -⟩ := SlR.of_own hI.ct
          clear hI0
          by_cases hlt : k < 100
          · have HF : Hid (rbF next.items c k = if ((getI c.changes k).isSome && (!(getI next.items k).isSome || !decide (atI' c.changes k = atI' next.items k))) = true then some (atI' c.changes k) else none) := hide rfl
            have HG : Hid (rbG next.items c k = (decide ((k : Int) ∈ c.gone) && (getI next.items k).isSome)) := hide rfl
            have HP : Hid (rbP (itemsOf ms c.mod) next.items c k = (((getI c.changes k).isSome || decide ((k : Int) ∈ c.gone)) && (((getI (itemsOf ms c.mod) k).isSome != (getI next.items k).isSome) || ((getI (itemsOf ms c.mod) k).isSome && !decide (atI' (itemsOf ms c.mod) k = atI' next.items k))))) := hide rfl
            have HI := hide hI
            have hkl : (k : Int) ≤ 99 := by omega
            clear hI
            obtain ⟨⟨gN, gC, -⟩, ⟨sC, sO, sN⟩, -⟩ := HM.out wr HI.out.b
            obtain ⟨n0, n1⟩ := gN.two
            obtain ⟨x0, x1, x2, x3, x4, x5⟩ := gC.allC
            have lN := gN.lt
            have lC := gC.lt
            have hit := c_rItemY rc.a rc.n rc.c c.changes k wr hrcn sC.2.1.2.2
            clear gN gC sC sO sN
            go_wp2_with fail
            refine hit.mono ?_
            clear hit
            clear n0 n1 x0 x1 x2 x3 x4 x5 lN lC
            rintro e w10 ⟨rfl, hbc⟩
            generalize atI' c.changes (k : Int) = X at *
            generalize (getI c.changes (k : Int)).isSome = bX at *
            have hbd := bthen hbc (balloc (Below.refl w10.heap.size w10) (.cells #[.int .i64 X.id, .int .i64 X.kind, .int .i64 X.x, .int .i64 X.y, .string X.text, .int .i64 X.mod] 27))
            have gX : Blk (w10.alloc (.cells #[.int .i64 X.id, .int .i64 X.kind, .int .i64 X.x, .int .i64 X.y, .string X.text, .int .i64 X.mod] 27)) w10.heap.size 27 (cI X) := Blk.new w10 27 (cI X)
            have HI' := hide (HI.out.to hbd)
            have HGX := hide gX
            clear hbc hbd gX HI
            have HI := HI'
            clear HI'
            go_upto_region 11 with (fail)
            generalize w10.alloc (.cells #[.int .i64 X.id, .int .i64 X.kind, .int .i64 X.x, .int .i64 X.y, .string X.text, .int .i64 X.mod] 27) = w11 at *
            generalize w10.heap.size = qX at *
            obtain ⟨⟨gN, gC, -⟩, ⟨sC, sO, sN⟩, -⟩ := HM.out w11 HI.out.b
            obtain ⟨n0, n1⟩ := gN.two
            obtain ⟨x0, x1, x2, x3, x4, x5⟩ := gC.allC
            have lN := gN.lt
            have lC := gC.lt
            have hh := c_rHas rc.a2 rc.n2 rc.c2 c.gone k w11 hrcn2 sC.2.2.2.2
            clear gN gC sC sO sN
            generalize decide ((k : Int) ∈ c.gone) = G at *
            go_wp2_with fail
            refine hh.mono ?_
            clear hh
            clear n0 n1 x0 x1 x2 x3 x4 x5 lN lC
            rintro e w11' ⟨rfl, rfl⟩
            go_upto_region 12 with (fail)
            obtain ⟨⟨gN, gC, -⟩, ⟨sC, sO, sN⟩, -⟩ := HM.out w11 HI.out.b
            obtain ⟨n0, n1⟩ := gN.two
            obtain ⟨x0, x1, x2, x3, x4, x5⟩ := gC.allC
            have lN := gN.lt
            have lC := gC.lt
            have hit := c_rItemY qa qn qc (itemsOf ms c.mod) k w11 hqn sO
            clear gN gC sC sO sN
            go_wp2_with fail
            refine hit.mono ?_
            clear hit
            clear n0 n1 x0 x1 x2 x3 x4 x5 lN lC
            rintro e w12 ⟨rfl, hbc⟩
            generalize atI' (itemsOf ms c.mod) (k : Int) = Y at *
            generalize (getI (itemsOf ms c.mod) (k : Int)).isSome = bY at *
            have hbd := bthen hbc (balloc (Below.refl w12.heap.size w12) (.cells #[.int .i64 Y.id, .int .i64 Y.kind, .int .i64 Y.x, .int .i64 Y.y, .string Y.text, .int .i64 Y.mod] 27))
            have gY : Blk (w12.alloc (.cells #[.int .i64 Y.id, .int .i64 Y.kind, .int .i64 Y.x, .int .i64 Y.y, .string Y.text, .int .i64 Y.mod] 27)) w12.heap.size 27 (cI Y) := Blk.new w12 27 (cI Y)
            have HI' := hide (HI.out.to hbd)
            have HGY := hide gY
            have HGX' := hide (HGX.out.below hbd HGX.out.lt)
            clear HGX
            have HGX := HGX'
            clear HGX'
            clear hbc hbd gY HI
            have HI := HI'
            clear HI'
            go_upto_region 13 with (fail)
            generalize w12.alloc (.cells #[.int .i64 Y.id, .int .i64 Y.kind, .int .i64 Y.x, .int .i64 Y.y, .string Y.text, .int .i64 Y.mod] 27) = w13 at *
            generalize w12.heap.size = qY at *
            obtain ⟨⟨gN, gC, -⟩, ⟨sC, sO, sN⟩, -⟩ := HM.out w13 HI.out.b
            obtain ⟨n0, n1⟩ := gN.two
            obtain ⟨x0, x1, x2, x3, x4, x5⟩ := gC.allC
            have lN := gN.lt
            have lC := gC.lt
            have hit := c_rItemY r.a r.n r.c next.items k w13 hrn sN
            clear gN gC sC sO sN
            go_wp2_with fail
            refine hit.mono ?_
            clear hit
            clear n0 n1 x0 x1 x2 x3 x4 x5 lN lC
            rintro e w14 ⟨rfl, hbc⟩
            generalize atI' next.items (k : Int) = Z at *
            generalize (getI next.items (k : Int)).isSome = bZ at *
            have hbd := bthen hbc (balloc (Below.refl w14.heap.size w14) (.cells #[.int .i64 Z.id, .int .i64 Z.kind, .int .i64 Z.x, .int .i64 Z.y, .string Z.text, .int .i64 Z.mod] 27))
            have gZ : Blk (w14.alloc (.cells #[.int .i64 Z.id, .int .i64 Z.kind, .int .i64 Z.x, .int .i64 Z.y, .string Z.text, .int .i64 Z.mod] 27)) w14.heap.size 27 (cI Z) := Blk.new w14 27 (cI Z)
            have HI' := hide (HI.out.to hbd)
            have HGZ := hide gZ
            have HGX' := hide (HGX.out.below hbd HGX.out.lt)
            clear HGX
            have HGX := HGX'
            clear HGX'
            have HGY' := hide (HGY.out.below hbd HGY.out.lt)
            clear HGY
            have HGY := HGY'
            clear HGY'
            clear hbc hbd gZ HI
            have HI := HI'
            clear HI'
            go_upto_region 14 with (fail)
            generalize w14.alloc (.cells #[.int .i64 Z.id, .int .i64 Z.kind, .int .i64 Z.x, .int .i64 Z.y, .string Z.text, .int .i64 Z.mod] 27) = w15 at *
            generalize w14.heap.size = qZ at *
            have HIs := hide (show w2.heap.size ≤ w15.heap.size from HI.out.b.size)
            have hl1 := colI_len (rbF next.items c) k
            have hl2 := colN_len (rbG next.items c) k
            have hl3 := colN_len (rbP (itemsOf ms c.mod) next.items c) k
            go_cut [103] from 87 to 103 (fun u wx => u = .bool ((bX || G) && ((bY != bZ) || (bY && !decide (Y = Z)))) ∧ w15 = wx)
            case first =>
              have hn1 := fun w => neqIt w Y Z
              obtain ⟨x0, x1, x2, x3, x4, x5⟩ := HGY.out.allI
              obtain ⟨y0, y1, y2, y3, y4, y5⟩ := HGZ.out.allI
              have lx := HGY.out.lt
              have ly := HGZ.out.lt
              cases bX <;> cases G <;> cases bY <;> cases bZ <;> (go_wp2_with fail; go_meet; exact ⟨rfl, rfl⟩)
            case rest =>
              obtain ⟨rfl, rfl⟩ := hcut
              go_upto_if 103 with (fail)
              have HP2 := hide (show rbP (itemsOf ms c.mod) next.items c k = ((bX || G) && ((bY != bZ) || (bY && !decide (Y = Z)))) from HP.out)
              clear HP
              generalize ((bX || G) && ((bY != bZ) || (bY && !decide (Y = Z)))) = f1 at *
              go_cut [13] from 104 to 107 (fun s wx => ∃ As cs, s = .slice As (colN (rbP (itemsOf ms c.mod) next.items c) (k + 1)).length cs ∧ RbI w2 rc (.slice Av (colI (rbF next.items c) k).length cv) (.slice Au (colN (rbG next.items c) k).length cu) s (colI (rbF next.items c) k) (colN (rbG next.items c) k) (colN (rbP (itemsOf ms c.mod) next.items c) (k + 1)) wx ∧ Blk wx qX 27 (cI X) ∧ Blk wx qZ 27 (cI Z))
              case first =>
                cases f1
                · have HP1 := hide (colN_false (p := rbP (itemsOf ms c.mod) next.items c) (n := k) HP2.out)
                  go_wp2_with fail
                  go_meet
                  rw [HP1.out]
                  exact ⟨As, cs, rfl, HI.out, HGX.out, HGZ.out⟩
                · have HP1 := hide (colN_true (p := rbP (itemsOf ms c.mod) next.items c) (n := k) HP2.out)
                  obtain ⟨R, hR⟩ : ∃ R, colN (rbP (itemsOf ms c.mod) next.items c) k = R := ⟨_, rfl⟩
                  rw [hR] at hl3
                  have HI2 := hide (show RbI w2 rc (.slice Av (colI (rbF next.items c) k).length cv) (.slice Au (colN (rbG next.items c) k).length cu) (.slice As R.length cs) (colI (rbF next.items c) k) (colN (rbG next.items c) k) R w15 by rw [← hR]; exact HI.out)
                  have HP3 := hide (show colN (rbP (itemsOf ms c.mod) next.items c) (k + 1) = R ++ [(k : Int)] by rw [HP1.out, hR])
                  clear HI HP1
                  generalize colN (rbP (itemsOf ms c.mod) next.items c) k = R' at *
                  subst hR
                  have gA : SlR (w15.alloc (.cells (cN (k : Int)).toArray 3)) _ 1 (some ⟨w15.heap.size, 0, none⟩) 1 (cN (k : Int)) := slr_new _ _ rfl rfl
                  go_wp2_with (at_builtin; refine wpList_append_sl (size := 1) rfl _ _ 30 rfl w2.heap.size 3 i1 (.int .i64 0) 8 Tryz.underlying30 hi1 hy0 hy1 hy2 rfl (by decide) (.slice As R'.length cs) R'.length (R'.flatMap cN) rfl (HI2.out.ct.alloc _) 1 1 (cN (k : Int)) rfl gA (Below.refl _ _) (fun u hu => oneN [(k : Int)] u (by simpa using hu)) (by unfold maxLen; omega) (by omega) (by have := HIs.out; simp; omega) ?_; intro v6 w6 ho6 hg6 hor6; obtain ⟨A6, c6, rfl, -, -, -⟩ := SlR.of_own ho6)
                  have hI6 := (HI2.out.to (balloc (Below.refl _ _) (.cells (cN (k : Int)).toArray 3))).addCt ho6 hg6 hor6
                  have gX6 := (HGX.out.alloc (.cells (cN (k : Int)).toArray 3)).grown hg6 (own_neX (HI2.out.ct.alloc (.cells (cN (k : Int)).toArray 3)) (HGX.out.alloc (.cells (cN (k : Int)).toArray 3)))
                  have gZ6 := (HGZ.out.alloc (.cells (cN (k : Int)).toArray 3)).grown hg6 (own_neX (HI2.out.ct.alloc (.cells (cN (k : Int)).toArray 3)) (HGZ.out.alloc (.cells (cN (k : Int)).toArray 3)))
                  go_meet
                  rw [HP3.out, List.length_append]
                  exact ⟨A6, c6, rfl, hI6, gX6, gZ6⟩
              case rest =>
                obtain ⟨w16, rfl⟩ : ∃ w16 : World, w16 = wc := ⟨_, rfl⟩
                obtain ⟨As, cs, rfl, hI, gX, gZ⟩ := hcut
                clear HI HGX HGZ HGY HIs HP2
                have HI := hide hI
                have HGX := hide gX
                have HGZ := hide gZ
                have HIs := hide (show w2.heap.size ≤ w16.heap.size from hI.b.size)
                clear hI gX gZ
                go_upto_region 16 with (fail)
                go_cut [117] from 108 to 117 (fun u wx => u = .bool (bX && (!bZ || !decide (X = Z))) ∧ w16 = wx)
                case first =>
                  have hn1 := fun w => neqIt w X Z
                  obtain ⟨x0, x1, x2, x3, x4, x5⟩ := HGX.out.allI
                  obtain ⟨y0, y1, y2, y3, y4, y5⟩ := HGZ.out.allI
                  have lx := HGX.out.lt
                  have ly := HGZ.out.lt
                  cases bX <;> cases bZ <;> (go_wp2_with fail; go_meet; exact ⟨rfl, rfl⟩)
                case rest =>
                  obtain ⟨rfl, rfl⟩ := hcut
                  go_upto_if 117 with (fail)
                  have HF2 := hide (show rbF next.items c k = if (bX && (!bZ || !decide (X = Z))) = true then some X else none from HF.out)
                  have HG2 := hide (show rbG next.items c k = (G && bZ) from HG.out)
                  clear HF HG
                  generalize (bX && (!bZ || !decide (X = Z))) = f2 at *
                  obtain ⟨As', hAs'⟩ : ∃ As' : Value, As' = .slice As (colN (rbP (itemsOf ms c.mod) next.items c) (k + 1)).length cs := ⟨_, rfl⟩
                  have HI2 : Hid (RbI w2 rc (.slice Av (colI (rbF next.items c) k).length cv) (.slice Au (colN (rbG next.items c) k).length cu) (.slice As (colN (rbP (itemsOf ms c.mod) next.items c) (k + 1)).length cs) (colI (rbF next.items c) k) (colN (rbG next.items c) k) (colN (rbP (itemsOf ms c.mod) next.items c) (k + 1)) w16) := HI
                  clear HI hAs' As'
                  have HI := HI2
                  clear HI2
                  cases f2
                  · have HF1 := hide (colI_none (f := rbF next.items c) (n := k) (by rw [HF2.out]; simp))
                    cases G
                    · have HG1 := hide (colN_false (p := rbG next.items c) (n := k) (by rw [HG2.out]; rfl))
                      go_wp2_with fail
                      go_roundw
                      case rel => exact ⟨k + 1, _, _, by omega, by go_num, by rw [HF1.out, HG1.out]; exact HI.out⟩
                      case measure => simp [intOf]; omega
                    · cases bZ
                      · have HG1 := hide (colN_false (p := rbG next.items c) (n := k) (by rw [HG2.out]; rfl))
                        go_wp2_with fail
                        go_roundw
                        case rel => exact ⟨k + 1, _, _, by omega, by go_num, by rw [HF1.out, HG1.out]; exact HI.out⟩
                        case measure => simp [intOf]; omega
                      · have HG1 := hide (colN_true (p := rbG next.items c) (n := k) (by rw [HG2.out]; rfl))
                        generalize colN (rbG next.items c) k = R at *
                        obtain ⟨m4, m5, f4, f5, lU⟩ := HI.out.u.u6
                        have gA : SlR (w16.alloc (.cells (cN (k : Int)).toArray 3)) _ 1 (some ⟨w16.heap.size, 0, none⟩) 1 (cN (k : Int)) := slr_new _ _ rfl rfl
                        go_wp2_with (at_builtin; refine wpList_append_sl (size := 1) rfl _ _ 30 rfl w2.heap.size 3 i1 (.int .i64 0) 8 Tryz.underlying30 hi1 hy0 hy1 hy2 rfl (by decide) (.slice Au R.length cu) R.length (R.flatMap cN) rfl (HI.out.go.alloc _) 1 1 (cN (k : Int)) rfl gA (Below.refl _ _) (fun u hu => oneN [(k : Int)] u (by simpa using hu)) (by unfold maxLen; omega) (by omega) (by have := HIs.out; simp; omega) ?_; intro v8 w8 ho8 hg8 hor8; obtain ⟨A8, c8, rfl, -, -, -⟩ := SlR.of_own ho8; have gM8 := (HI.out.to (balloc (Below.refl _ _) (.cells (cN (k : Int)).toArray 3))).u.grown hg8 (own_neX (HI.out.go.alloc (.cells (cN (k : Int)).toArray 3)) (HI.out.u.alloc (.cells (cN (k : Int)).toArray 3))); obtain ⟨k4, k5, e4, e5, lU8⟩ := gM8.u6)
                        have hI8 := (HI.out.to (balloc (Below.refl _ _) (.cells (cN (k : Int)).toArray 3))).addGo ho8 hg8 hor8
                        go_roundw
                        case rel => exact ⟨k + 1, _, _, by omega, by go_num, by rw [HF1.out, HG1.out]; exact hI8⟩
                        case measure => simp [intOf]; omega
                  · have HF1 := hide (colI_some (f := rbF next.items c) (n := k) (x := X) (by rw [HF2.out]; simp))
                    generalize colI (rbF next.items c) k = P at *
                    obtain ⟨m4, m5, f4, f5, lU⟩ := HI.out.u.u6
                    obtain ⟨y0, y1, y2, y3, y4, y5⟩ := HGX.out.allI
                    have ly := HGX.out.lt
                    have gA : SlR (w16.alloc (.cells (cI X).toArray 27)) _ 6 (some ⟨w16.heap.size, 0, none⟩) 1 (cI X) := slr_new _ _ rfl rfl
                    go_upto_region 18 with (at_builtin; refine wpList_append_sl (size := 6) rfl _ _ 29 rfl w2.heap.size 27 i0 zV 56 Tryz.underlying29 hi hz0 hz1 hz2 rfl (by decide) (.slice Av P.length cv) P.length (P.flatMap cI) rfl (HI.out.ch.alloc _) 1 1 (cI X) rfl gA (Below.refl _ _) (fun u hu => oneI [X] u (by simpa using hu)) (by unfold maxLen; omega) (by omega) (by have := HIs.out; simp; omega) ?_; intro v6 w6 ho6 hg6 hor6; obtain ⟨A6, c6, rfl, -, -, -⟩ := SlR.of_own ho6; have gM7 := (HI.out.to (balloc (Below.refl _ _) (.cells (cI X).toArray 27))).u.grown hg6 (own_neX (HI.out.ch.alloc (.cells (cI X).toArray 27)) (HI.out.u.alloc (.cells (cI X).toArray 27))); obtain ⟨k4, k5, e4, e5, lU7⟩ := gM7.u6)
                    have hI7 := (HI.out.to (balloc (Below.refl _ _) (.cells (cI X).toArray 27))).addCh ho6 hg6
                    have HI7 := hide hI7
                    clear hI7 ho6 hg6 hor6 gM7 k4 k5 e4 e5 lU7 gA m4 m5 f4 f5 lU HI HIs y0 y1 y2 y3 y4 y5 ly
                    generalize w6.setCell ⟨w2.heap.size, 4, none⟩ _ = w16 at *
                    have HI := HI7
                    clear HI7
                    have HIs := hide (show w2.heap.size ≤ w16.heap.size from HI.out.b.size)
                    cases G
                    · have HG1 := hide (colN_false (p := rbG next.items c) (n := k) (by rw [HG2.out]; rfl))
                      go_wp2_with fail
                      go_roundw
                      case rel => exact ⟨k + 1, _, _, by omega, by go_num, by rw [HF1.out, HG1.out]; exact HI.out⟩
                      case measure => simp [intOf]; omega
                    · cases bZ
                      · have HG1 := hide (colN_false (p := rbG next.items c) (n := k) (by rw [HG2.out]; rfl))
                        go_wp2_with fail
                        go_roundw
                        case rel => exact ⟨k + 1, _, _, by omega, by go_num, by rw [HF1.out, HG1.out]; exact HI.out⟩
                        case measure => simp [intOf]; omega
                      · have HG1 := hide (colN_true (p := rbG next.items c) (n := k) (by rw [HG2.out]; rfl))
                        generalize colN (rbG next.items c) k = R at *
                        obtain ⟨m4, m5, f4, f5, lU⟩ := HI.out.u.u6
                        have gA : SlR (w16.alloc (.cells (cN (k : Int)).toArray 3)) _ 1 (some ⟨w16.heap.size, 0, none⟩) 1 (cN (k : Int)) := slr_new _ _ rfl rfl
                        go_wp2_with (at_builtin; refine wpList_append_sl (size := 1) rfl _ _ 30 rfl w2.heap.size 3 i1 (.int .i64 0) 8 Tryz.underlying30 hi1 hy0 hy1 hy2 rfl (by decide) (.slice Au R.length cu) R.length (R.flatMap cN) rfl (HI.out.go.alloc _) 1 1 (cN (k : Int)) rfl gA (Below.refl _ _) (fun u hu => oneN [(k : Int)] u (by simpa using hu)) (by unfold maxLen; omega) (by omega) (by have := HIs.out; simp; omega) ?_; intro v8 w8 ho8 hg8 hor8; obtain ⟨A8, c8, rfl, -, -, -⟩ := SlR.of_own ho8; have gM8 := (HI.out.to (balloc (Below.refl _ _) (.cells (cN (k : Int)).toArray 3))).u.grown hg8 (own_neX (HI.out.go.alloc (.cells (cN (k : Int)).toArray 3)) (HI.out.u.alloc (.cells (cN (k : Int)).toArray 3))); obtain ⟨k4, k5, e4, e5, lU8⟩ := gM8.u6)
                        have hI8 := (HI.out.to (balloc (Below.refl _ _) (.cells (cN (k : Int)).toArray 3))).addGo ho8 hg8 hor8
                        go_roundw
                        case rel => exact ⟨k + 1, _, _, by omega, by go_num, by rw [HF1.out, HG1.out]; exact hI8⟩
                        case measure => simp [intOf]; omega
          · obtain rfl : k = 100 := by omega
            have gU := hI.u
            obtain ⟨u0, u1, u2, u3⟩ : wr.cell? ⟨w2.heap.size, 0, none⟩ = some (.int .i64 rc.code) ∧ wr.cell? ⟨w2.heap.size, 1, none⟩ = some (.int .i64 rc.mod) ∧ wr.cell? ⟨w2.heap.size, 2, none⟩ = some (.int .i64 rc.x) ∧ wr.cell? ⟨w2.heap.size, 3, none⟩ = some (.int .i64 rc.y) := ⟨gU.cell 0, gU.cell 1, gU.cell 2, gU.cell 3⟩
            obtain ⟨u4, u5, -, -, lU⟩ := gU.u6
            obtain ⟨⟨-, -, gZ⟩, -, hbw⟩ := HM.out wr hI.b
            obtain ⟨z0, z1, z2, z3, z4, z5⟩ := gZ.allC
            dsimp only [zCR] at z0 z1 z2 z3 z4 z5
            have v0 := gZ.free 0
            have v1 := gZ.free 1
            have v2 := gZ.free 2
            have v3 := gZ.free 3
            have v4 := gZ.free 4
            have v5 := gZ.free 5
            have lZ := gZ.lt
            have hne : w2.heap.size ≠ w.heap.size + 1 + 1 := by have := HZl.out; omega
            have HI := hide hI
            have HBW := hide hbw
            clear hI gU gZ hbw hlt
            go_wp2_with fail
            refine bodyPost_ret (v := .tuple #[crV ⟨rc.code, rc.mod, rc.x, rc.y, Av, (colI (rbF next.items c) 100).length, cv, Au, (colN (rbG next.items c) 100).length, cu⟩, .slice As (colN (rbP (itemsOf ms c.mod) next.items c) 100).length cs, .int .i64 0]) (by simp [results, Tryz.results26, go_sem, z0, z1, z2, z3, z4, z5]) rfl ?_
            have hzl := HZl.out
            refine ⟨reb_end HBW.out (by omega) _ _ _ _ _ _, .inr ⟨HOk.out, _, _, rfl, ?_, ?_⟩⟩
            · exact ⟨HCC.out, own_row (own_set6 HI.out.ch hzl _ _ _ _ _ _), own_row (own_set6 HI.out.go hzl _ _ _ _ _ _)⟩
            · exact own_base (own_set6 HI.out.ct hzl _ _ _ _ _ _) (by omega)
      · have hd0 : (r.id != rc.mod) = true := by simp [hne]
        obtain ⟨-, -, -, hid, hcc⟩ := HW.out
        have HF := hide (show rbOk ms next c = false by unfold rbOk; simp [← hid, ← hcc.2.1, hne])
        clear hV hne hid hcc
        obtain ⟨z0, z1, z2, z3, z4, z5⟩ := gZ2.allC
        dsimp only [zCR] at z0 z1 z2 z3 z4 z5
        have u0 := gZ2.free 0
        have u1 := gZ2.free 1
        have u2 := gZ2.free 2
        have u3 := gZ2.free 3
        have u4 := gZ2.free 4
        have u5 := gZ2.free 5
        have hgl := gZ2.lt
        go_wp2_with fail
        refine bodyPost_ret (v := .tuple #[.agg #[.int .i64 0, .int .i64 0, .int .i64 0, .int .i64 0, .slice none 0 0, .slice none 0 0], .slice none 0 0, .int .i64 140]) (by simp [results, Tryz.results26, go_sem, z0, z1, z2, z3, z4, z5]) rfl ?_
        exact ⟨reb_end hb02 (by omega) _ _ _ _ _ _, .inl ⟨HF.out, rfl⟩⟩
end Go.Proofs.YtncdombfhcfobaaGreat
/- Plain law: what the reference's Rebase answers is what the package's own does. -/
namespace Go.Proofs.YtncdombfhcfobaaGreat
open Go.RowKit Go.Shelf
theorem rb_ch {now : List It} {c : Cp} (hn : itsOk now = true) (hc : cpOk c = true) : colI (rbF now c) 100 = c.changes.filter (changedB (byL now)) := by
  have h : rbF now c = dfF now c.changes := by
    funext n
    unfold rbF dfF
    rw [show decide (atI' c.changes n = atI' now n) = decide (atI' now n = atI' c.changes n) from decide_eq_decide.2 eq_comm]
  rw [h, dif_chg hn (cpOk_parts hc).2.2.2.1]
  rfl
theorem rb_go {now : List It} {c : Cp} (hn : itsOk now = true) (hc : cpOk c = true) : colN (rbG now c) 100 = c.gone.filter (goneP (byL now)) := by
  obtain ⟨h1, h2⟩ := ascB_parts _ _ (cpOk_parts hc).2.2.2.2.1
  refine asc_same (colN_asc 100) (h1.filter _) (fun n => ?_)
  rw [colN_mem, List.mem_filter]
  unfold goneP
  rw [getI_byL (itsOk_nd hn)]
  constructor
  · rintro ⟨m, -, h, rfl⟩
    unfold rbG at h
    simp only [Bool.and_eq_true, decide_eq_true_eq] at h
    exact h
  · rintro ⟨h3, h4⟩
    have := h2 n h3
    refine ⟨n.toNat, by omega, ?_, by omega⟩
    unfold rbG
    rw [show ((n.toNat : Nat) : Int) = n by omega, h4]
    simpa using h3
theorem cnt_flag (old now : List It) (n : Int) : (((getI old n).isSome != (getI now n).isSome) || ((getI old n).isSome && !decide (atI' old n = atI' now n))) = cntB old now n := by
  unfold cntB atI'
  cases getI old n <;> cases getI now n <;> simp
theorem rb_ct {old now : List It} {c : Cp} (ho : itsOk old = true) (hn : itsOk now = true) (hc : cpOk c = true) : colN (rbP old now c) 100 = sortN (contU (byL old) (byL now) c) := by
  obtain ⟨-, -, -, hch, hgo, hdj⟩ := cpOk_parts hc
  obtain ⟨h1, h2⟩ := ascB_parts _ _ hgo
  have hids := (itsOk_parts hch).2.2.1
  have hcn : ∀ n, cntB (byL old) (byL now) n = cntB old now n := fun n => by unfold cntB; rw [getI_byL (itsOk_nd ho), getI_byL (itsOk_nd hn)]
  have hnd : (contU (byL old) (byL now) c).Nodup := by
    unfold contU
    refine List.Pairwise.filter _ (List.nodup_append.2 ⟨itsOk_nd hch, pair_ne h1, fun a ha b hb e => ?_⟩)
    obtain ⟨s, hs, rfl⟩ := List.mem_map.1 ha
    subst e
    exact hdj s hs hb
  refine asc_same (colN_asc 100) (sortN_lt hnd) (fun n => ?_)
  rw [colN_mem, (sortN_perm _).mem_iff]
  unfold contU
  rw [List.mem_filter, List.mem_append, hcn]
  have hmem : ∀ m : Int, (getI c.changes m).isSome = true ↔ m ∈ c.changes.map (·.id) := fun m => by
    cases hg : getI c.changes m with
    | none => simp only [Option.isSome_none, Bool.false_eq_true, false_iff]; exact getI_none.1 hg
    | some x => simp only [Option.isSome_some, true_iff]; exact List.mem_map.2 ⟨x, (getI_some hg).1, (getI_some hg).2⟩
  constructor
  · rintro ⟨m, -, h, rfl⟩
    unfold rbP at h
    rw [cnt_flag, Bool.and_eq_true, Bool.or_eq_true, decide_eq_true_eq, hmem] at h
    exact h
  · rintro ⟨h3, h4⟩
    have hr : 0 ≤ n ∧ n ≤ 99 := by
      rcases h3 with h | h
      · obtain ⟨s, hs, rfl⟩ := List.mem_map.1 h
        exact hids s hs
      · exact (h2 n h).2
    refine ⟨n.toNat, by omega, ?_, by omega⟩
    unfold rbP
    rw [show ((n.toNat : Nat) : Int) = n by omega, cnt_flag, h4, Bool.and_true, Bool.or_eq_true, decide_eq_true_eq, hmem]
    exact h3
theorem rb_next {ms : List Mo} {next : Mo} (h : rpOk ms next = true) : itsOk next.items = true := by
  rw [rpOk_eq, Bool.and_eq_true] at h
  have hm : next ∈ replL next ms := ((replL_asc next (valid_parts h.1).2.1).2 next).2 (.inr rfl)
  exact ((valid_parts h.2).2.2.1 next hm).2.1
theorem rb_ok (ms : List Mo) (next : Mo) (c : Cp) : rbOk ms next c = rebOk ms next c := by
  unfold rbOk rebOk
  rw [rpOk_eq]
/-- the reference's copy is the package's -/
theorem rb_copy {ms : List Mo} {next : Mo} {c : Cp} (h : rbOk ms next c = true) : (⟨c.code, c.mod, c.x, c.y, colI (rbF next.items c) 100, colN (rbG next.items c) 100⟩ : Cp) = rebC (byL next.items) c := by
  unfold rbOk at h
  simp only [Bool.and_eq_true] at h
  have hn := rb_next h.1.1
  have hc := (vc_parts h.1.2).2.1
  unfold rebC
  rw [rb_ch hn hc, rb_go hn hc]
theorem rb_cont {ms : List Mo} {next : Mo} {c : Cp} (h : rbOk ms next c = true) : colN (rbP (itemsOf ms c.mod) next.items c) 100 = sortN (contU (byL (itemsOf ms c.mod)) (byL next.items) c) := by
  unfold rbOk at h
  simp only [Bool.and_eq_true] at h
  exact rb_ct (itemsOf_ok (vc_parts h.1.2).1 c.mod) (rb_next h.1.1) (vc_parts h.1.2).2.1
end Go.Proofs.YtncdombfhcfobaaGreat
