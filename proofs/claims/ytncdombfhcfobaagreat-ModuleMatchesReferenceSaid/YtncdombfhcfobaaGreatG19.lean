/- A region that draws its order: first operations that only read or whose calls leave what stood as it was, then a tail that waits for all of them: one walk in the order of the text. -/
import Derived.Test.YtncdombfhcfobaaGreatRg
import Derived.StillTail
import Derived.Test.YtncdombfhcfobaaGreatG17
namespace Go.Proofs.YtncdombfhcfobaaGreat
open Go.RowKit
section
variable {P : Program} {ops : Array Oper} {C : World → Prop} {n : Nat} {L : Array Bool → Act → Prop}
/-- f operations of the head, in whatever order; then L -/
def HeadQ (P : Program) (ops : Array Oper) (C : World → Prop) (n : Nat) (L : Array Bool → Act → Prop) : Nat → Array Bool → Act → Prop
  | 0, s, a => L s a
  | f + 1, s, a => Region.ready .any ops s ≠ [] ∧ ∀ i ∈ Region.ready .any ops s, i < n ∧ qOp P ops C i (HeadQ P ops C n L f (s.setIfInBounds i true)) a
theorem HeadQ.any {g : Nat} {Q : Exit → Act → World → Prop} (hL : ∀ s a, L s a → ∀ w, C w → wpAny P .any ops Q g s a w) :
    ∀ (f : Nat) (s : Array Bool) (a : Act), HeadQ P ops C n L f s a → ∀ w, C w → wpAny P .any ops Q (f + g) s a w
  | 0, s, a, h, w, hw => by simpa using hL s a h w hw
  | f + 1, s, a, h, w, hw => by
    have e : f + 1 + g = f + g + 1 := by omega
    rw [e]
    refine ⟨fun h0 => absurd h0 h.1, fun i hi => ?_⟩
    exact wpOp_of_qOp hw (fun a' w' hw' ha' => HeadQ.any hL f _ a' ha' w' hw') (h.2 i hi).2
theorem HeadQ.first {i : Nat} {o : Oper} {v : Value} (ho : ops[i]? = some o) (hsel : Region.noSelect ops = true) (hs : Region.sinkB .any ops n = true) (hc : Region.chainB .any ops n = true) (hn : n < ops.size) (hin : i < n)
    (hend : ∀ s a, L s a → ∀ j ∈ Region.ready .any ops s, n ≤ j) : ∀ (f : Nat) (s : Array Bool) (a : Act), HeadInv .any ops n s →
      (∀ j oj, ops[j]? = some oj → j ≠ i → s.getD j true = false → (∀ e ∈ oj.after, Region.binds .any e = true → e.on ≠ i) → o.apart ops oj = true) →
      i ∈ Region.ready .any ops s → YieldsIn P ops C o v a → HeadQ P ops C n L f (s.setIfInBounds i true) (a.put o.dst v) → HeadQ P ops C n L (f + 1) s a := by
  intro f
  induction f with
  | zero =>
    intro s a inv _ hr hy H
    refine ⟨fun h => (by rw [h] at hr; cases hr), fun j hj => ?_⟩
    have hun := (mem_ready.1 hr).1
    have hjn : j < n := Nat.lt_of_not_le fun h => absurd hj (tail_waits hs hc hn inv _ i rfl hin hun j h)
    by_cases e : j = i
    · rw [e]
      exact ⟨hin, hy.qOp ho H⟩
    · have := hend _ _ H j (ready_mono hj e)
      omega
  | succ f ih =>
    intro s a inv hap hr hy H
    refine ⟨fun h => (by rw [h] at hr; cases hr), fun j hj => ?_⟩
    have hun := (mem_ready.1 hr).1
    have hjn : j < n := Nat.lt_of_not_le fun h => absurd hj (tail_waits hs hc hn inv _ i rfl hin hun j h)
    by_cases e : j = i
    · rw [e]
      exact ⟨hin, hy.qOp ho H⟩
    · refine ⟨hjn, ?_⟩
      have H1 := (H.2 j (ready_mono hj e)).2
      obtain ⟨hju, oj, hoj, hall⟩ := mem_ready.1 hj
      have hni : ∀ x ∈ oj.after, Region.binds .any x = true → x.on ≠ i := by
        intro x hx hb hxi
        have h1 := hall x hx hb
        rw [hxi, getD_both hun] at h1
        cases h1
      have hsl := Region.noSelect_spec hsel
      have H2 := qOp_put hoj (hap j oj hoj e hju hni) (fun cs b => hsl i o cs b ho) (fun cs b => hsl j oj cs b hoj) hy H1
      refine qOp_mono (fun a' h' => ?_) H2
      refine ih (s.setIfInBounds j true) a' (inv.set hj hjn) (fun k ok hk hki hku hkn => ?_) (ready_mono hr (fun h => e h.symm)) h'.1 ?_
      · refine hap k ok hk hki ?_ hkn
        by_cases hjk : j = k
        · rw [← hjk]; exact hju
        · rwa [getD_set_ne true hjk] at hku
      · rw [Array.setIfInBounds_comm _ _ e]
        exact h'.2
theorem HeadQ.lex {g : Nat} {R : Act → Prop} (hsel : Region.noSelect ops = true) (hs : Region.sinkB .any ops n = true) (hc : Region.chainB .any ops n = true) (hn : n < ops.size) :
    ∀ (l : List Oper) (k : Nat) (s : Array Bool) (a : Act), (∀ j, j < l.length → l[j]? = ops[k + j]?) → k + l.length = n → HeadInv .any ops n s → Region.lexHead .any ops g l.length k s = true → wpQuiet P ops C R l a →
      HeadQ P ops C n (fun s' a' => Region.seqB .any ops g n s' = true ∧ R a') l.length s a
  | [], k, s, a, _, hk, _, hB, h => by
    have e : k = n := by simpa using hk
    rw [← e]
    exact ⟨by simpa [Region.lexHead] using hB, h⟩
  | o :: l, k, s, a, hl, hk, inv, hB, h => by
    have ho : ops[k]? = some o := by simpa using (hl 0 (by simp)).symm
    rw [List.length_cons] at hB hk ⊢
    rw [Region.lexHead, Bool.and_eq_true, Bool.and_eq_true] at hB
    have hr : k ∈ Region.ready .any ops s := by simpa using hB.1.1
    have hq : qOp P ops C k (wpQuiet P ops C R l) a := by
      unfold qOp
      simp only [ho]
      exact h
    obtain ⟨v, hy, hK⟩ := yieldsIn_of_qOp ho hq
    refine HeadQ.first ho hsel hs hc hn (by omega) (fun s' a' hL => seqB_ready hL.1) l.length s a inv (Region.free_spec ho hB.1.2) hr hy ?_
    refine HeadQ.lex hsel hs hc hn l (k + 1) _ _ (fun j hj => ?_) (by omega) (inv.set hr (by omega)) hB.2 hK
    have := hl (j + 1) (by simp; omega)
    rw [List.getElem?_cons_succ] at this
    rw [this]
    congr 1
    omega
theorem wp_region_bt (n : Nat) (w0 : World) {id : Nat} {Q : Exit → Act → World → Prop} {a : Act} {w : World} {l : List Oper} (hw : Below w0.heap.size w0 w) (hm : P.follows .mixedOrders = true) (hB : Region.lexTailB .any l.toArray n = true)
    (h : wpQuiet P l.toArray (fun w' => ∃ x : BW w0, w' = x.val) (fun a' => ∀ w', Below w0.heap.size w0 w' → wpList P l.toArray Q (l.drop n) a' w') (l.take n) a) : (Code.region id l.toArray true).wp P Q a w := by
  simp only [Region.lexTailB, Bool.and_eq_true, decide_eq_true_eq] at hB
  obtain ⟨⟨⟨⟨hsel, hn⟩, hs⟩, hc⟩, hlex⟩ := hB
  have hnl : n < l.length := by simpa using hn
  have hlen : (l.take n).length = n := by rw [List.length_take]; omega
  have hdl : (l.drop n).length = l.toArray.size - n := by simp
  have inv : HeadInv .any l.toArray n (Array.replicate l.toArray.size false) := by
    refine ⟨by simp, fun j oj _ hl => ?_, fun t _ ht => getD_in (by simpa using ht) (getD_replicate_false _ _)⟩
    rw [getD_replicate_false] at hl
    cases hl
  have H := HeadQ.lex (g := l.toArray.size - n) hsel hs hc hn (l.take n) 0 _ a (fun j hj => by
    rw [hlen] at hj
    simp [hj]) (by simpa using hlen) inv (by rw [hlen]; exact hlex) h
  refine wp_region_any hm ?_
  have key := HeadQ.any (Q := Q) (g := l.toArray.size - n) (fun s a' hL w' hw' => by
    obtain ⟨x, rfl⟩ := hw'
    have := wpAny_of_seq (md := .any) (Q' := Q) (l.drop n) n s a' x.val (fun j => by simp [List.getElem?_drop]) (by rw [hdl]; exact hL.1) (hL.2 x.val x.ok)
    rwa [hdl] at this) _ _ _ H w.drew ⟨⟨w.drew, bdrew hw⟩, rfl⟩
  rw [hlen, show n + (l.toArray.size - n) = l.toArray.size from by omega] at key
  exact key
end
end Go.Proofs.YtncdombfhcfobaaGreat
/- ModuleMatchesReference, in pieces: frames; the third loop. -/
namespace Go.Proofs.YtncdombfhcfobaaGreat
open Go.RowKit Go.Shelf
/-- modules in memory -/
structure LM where
  A : Option Addr
  n : Nat
  c : Nat
  rows : List MR
  ms : List Mo
def LmB (L : LM) : Prop := L.n ≤ 100 ∧ ∀ m ∈ L.ms, m.items.length ≤ 14
def LmOk (W : World) (L : LM) : Prop := SlR W W.heap.size 2 L.A L.n (L.rows.flatMap cM) ∧ Mods W L.rows L.ms
theorem LmOk.to {W W' : World} {L : LM} (h : LmOk W L) (hb : Below W.heap.size W W') : LmOk W' L := ⟨h.1.to' hb, h.2.to hb⟩
/-- a module of its own in memory -/
def MoOk (W : World) (r : MR) (m : Mo) : Prop := (r.id = m.id ∧ r.n ≤ r.c ∧ r.c ≤ 9223372036854775807 ∧ m.items.length ≤ 14) ∧ SlR W W.heap.size 6 r.a r.n (m.items.flatMap cI)
theorem MoOk.to {W W' : World} {r : MR} {m : Mo} (h : MoOk W r m) (hb : Below W.heap.size W W') : MoOk W' r m := ⟨h.1, h.2.to' hb⟩
/-! frames of the law's function -/
set_option maxRecDepth 100000 in
def frm (u : Nat → Value) : Act := ⟨#[u 0, u 1, u 2, u 3, u 4, u 5, u 6, u 7, u 8, u 9, u 10, u 11, u 12, u 13, u 14, u 15, u 16, u 17, u 18, u 19, u 20, u 21, u 22, u 23, u 24, u 25, u 26, u 27, u 28, u 29, u 30, u 31, u 32, u 33, u 34, u 35, u 36, u 37, u 38, u 39, u 40, u 41, u 42, u 43, u 44, u 45, u 46, u 47, u 48, u 49, u 50, u 51, u 52, u 53, u 54, u 55, u 56, u 57, u 58, u 59, u 60, u 61, u 62, u 63, u 64, u 65, u 66, u 67, u 68, u 69, u 70, u 71, u 72, u 73, u 74, u 75, u 76, u 77, u 78, u 79, u 80, u 81, u 82, u 83, u 84, u 85, u 86, u 87, u 88, u 89, u 90, u 91, u 92, u 93, u 94, u 95, u 96, u 97, u 98, u 99, u 100, u 101, u 102, u 103, u 104, u 105, u 106, u 107, u 108, u 109, u 110, u 111, u 112, u 113, u 114, u 115, u 116, u 117, u 118, u 119, u 120, u 121, u 122, u 123, u 124, u 125, u 126, u 127, u 128, u 129, u 130, u 131, u 132, u 133, u 134, u 135, u 136, u 137, u 138, u 139, u 140, u 141, u 142, u 143, u 144, u 145, u 146, u 147, u 148, u 149, u 150, u 151, u 152, u 153, u 154, u 155, u 156, u 157, u 158, u 159, u 160, u 161, u 162, u 163, u 164, u 165, u 166, u 167, u 168, u 169, u 170, u 171, u 172, u 173, u 174, u 175, u 176, u 177, u 178, u 179, u 180, u 181, u 182, u 183, u 184, u 185, u 186, u 187, u 188, u 189, u 190, u 191, u 192, u 193, u 194, u 195, u 196, u 197, u 198, u 199, u 200, u 201, u 202, u 203, u 204, u 205, u 206, u 207, u 208, u 209, u 210, u 211, u 212, u 213, u 214, u 215, u 216, u 217, u 218, u 219, u 220, u 221, u 222, u 223, u 224, u 225, u 226, u 227, u 228, u 229, u 230, u 231, u 232, u 233, u 234, u 235, u 236, u 237, u 238, u 239, u 240, u 241, u 242, u 243, u 244, u 245, u 246, u 247, u 248, u 249, u 250, u 251, u 252, u 253, u 254, u 255, u 256, u 257, u 258, u 259, u 260, u 261, u 262, u 263, u 264, u 265, u 266, u 267, u 268, u 269, u 270, u 271, u 272, u 273, u 274, u 275, u 276, u 277, u 278, u 279, u 280, u 281, u 282, u 283, u 284, u 285, u 286, u 287, u 288, u 289, u 290, u 291, u 292, u 293, u 294, u 295, u 296, u 297, u 298, u 299, u 300, u 301, u 302, u 303, u 304, u 305, u 306, u 307, u 308, u 309, u 310, u 311, u 312, u 313, u 314, u 315, u 316, u 317, u 318, u 319, u 320, u 321, u 322, u 323, u 324, u 325, u 326, u 327, u 328, u 329, u 330, u 331, u 332, u 333, u 334, u 335, u 336, u 337, u 338, u 339, u 340, u 341, u 342, u 343, u 344, u 345, u 346, u 347, u 348, u 349, u 350, u 351, u 352, u 353, u 354, u 355, u 356, u 357, u 358, u 359, u 360, u 361, u 362, u 363, u 364, u 365, u 366, u 367, u 368, u 369, u 370, u 371, u 372, u 373, u 374, u 375, u 376, u 377, u 378, u 379, u 380, u 381, u 382, u 383, u 384, u 385, u 386, u 387, u 388, u 389, u 390, u 391, u 392, u 393, u 394, u 395, u 396, u 397, u 398, u 399, u 400, u 401, u 402, u 403, u 404, u 405, u 406, u 407, u 408, u 409, u 410, u 411, u 412, u 413, u 414, u 415], []⟩
def sl (a : Act) (i : Nat) : Value := a.tmps.getD i undef
set_option maxRecDepth 100000 in
theorem frm_list (u : Nat → Value) : frm u = ⟨((List.range 416).map u).toArray, []⟩ := by kernel_rfl
theorem act_frm {a : Act} (hz : a.tmps.size = 416) (hd : a.defers = []) : a = frm (sl a) := by
  rw [frm_list]
  obtain ⟨t, d⟩ := a
  simp only at hz hd
  subst hd
  congr 1
  refine Array.ext (by simp [hz]) (fun i h1 h2 => ?_)
  simp [sl, Array.getD, h1]
/-- what a piece of code leaves -/
def Kp (K : List Nat) (a a' : Act) : Prop := a'.tmps.size = 416 ∧ a'.defers = [] ∧ ∀ i ∈ K, sl a' i = sl a i
theorem Kp.trans {K : List Nat} {a b c : Act} (h : Kp K a b) (k : Kp K b c) : Kp K a c := ⟨k.1, k.2.1, fun i hi => (k.2.2 i hi).trans (h.2.2 i hi)⟩
theorem Kp.sub {K K' : List Nat} {a b : Act} (h : Kp K a b) (hs : K'.all K.contains = true) : Kp K' a b := ⟨h.1, h.2.1, fun i hi => h.2.2 i (by simpa using List.all_eq_true.1 hs i hi)⟩
theorem Kp.refl {K : List Nat} {a : Act} (hz : a.tmps.size = 416) (hd : a.defers = []) : Kp K a a := ⟨hz, hd, fun _ _ => rfl⟩
set_option maxRecDepth 100000 in
theorem sl_frm (u : Nat → Value) (i : Nat) (h : i < 416) : sl (frm u) i = u i := by
  rw [frm_list]
  simp [sl, Array.getD, h]
/-! pieces of code -/
def findB (n : Nat) : Code → Option Code
  | .seq a b => match findB n a with
    | some c => some c
    | none => findB n b
  | .block m c => if m = n then some (.block m c) else findB n c
  | .loop c => findB n c
  | .scope c => findB n c
  | .cond _ a b => match findB n a with
    | some c => some c
    | none => findB n b
  | _ => none
noncomputable def blk (n : Nat) : Code := ((Tryz.f3.body.bind (findB n)).getD .skip)
theorem sameCp_self (c : Cp) : sameCp c c = true := by
  unfold sameCp
  simp

set_option linter.unusedSimpArgs false in
set_option linter.unusedVariables false in
set_option maxRecDepth 100000 in
set_option maxHeartbeats 16000000 in
theorem p5 (L : LM) (rd : CR) (cd : Cp) (rn : MR) (mn : Mo) (b30 g k : Nat) (a : Act) (w : World) (Q : Exit → Act → World → Prop) (hz : a.tmps.size = 416) (hd : a.defers = []) (h28 : sl a 28 = .slice L.A L.n L.c) (h30 : sl a 30 = .pointer (some ⟨b30, 0, none⟩)) (h224 : sl a 224 = .slice (some ⟨g, 0, none⟩) 2 2) (h226 : sl a 226 = .int .i64 k) (hLB : LmB L) (hlm : LmOk w L) (gR : Blk w b30 32 (cC rd)) (hcp : CpR w rd cd) (hmo : MoOk w rn mn)
    (hk : k < 2)
    (z0 : w.cell? ⟨g, k * 2, none⟩ = some (.int .i64 rn.id)) (z1 : w.cell? ⟨g, k * 2 + 1, none⟩ = some (.slice rn.a rn.n rn.c))
    (hQ : ∀ (a' : Act) (W : World), Kp [19, 1, 2, 16, 23, 25, 26, 28, 30, 136, 137, 138, 149, 150, 151, 224, 225, 226] a a' → Below w.heap.size w W → Q .normal a' W) : (blk 5).wp Tryz.prog Q a w := by
  conv => arg 2; whnf
  obtain ⟨u, rfl⟩ : ∃ u, a = frm u := ⟨sl a, act_frm hz hd⟩
  clear hz hd
  rw [sl_frm u 28 (by decide)] at h28
  rw [sl_frm u 30 (by decide)] at h30
  rw [sl_frm u 224 (by decide)] at h224
  rw [sl_frm u 226 (by decide)] at h226
  have H28 := hide h28
  have H30 := hide h30
  have H224 := hide h224
  have H226 := hide h226
  have HQ := hide hQ
  unfold frm
  rw [h28, h30, h224, h226]
  clear h28 h30 h224 h226 hQ
  have hk' : (k : Int) < 2 := by omega
  have hLn := hLB.1
  have hLn63 : L.n ≤ 9223372036854775807 := by omega
  have hml : ∀ m ∈ L.ms, m.items.length ≤ 1000000 := fun m hm => Nat.le_trans (hLB.2 m hm) (by omega)
  have HML := hide hml
  have lz := World.block_lt_of_cell? w _ z0
  have gN : Blk (w.alloc (.cells #[.int .i64 rn.id, .slice rn.a rn.n rn.c] 37)) w.heap.size 37 (cM rn) := Blk.new w 37 (cM rn)
  have hbN := balloc (Below.refl w.heap.size w) (.cells #[.int .i64 rn.id, .slice rn.a rn.n rn.c] 37)
  have HM := hide hmo.1
  have hnl : mn.items.length ≤ 1000000 := by have := hmo.1.2.2.2; omega
  have HB : Hid (∀ W : World, Below (w.alloc (.cells #[.int .i64 rn.id, .slice rn.a rn.n rn.c] 37)).heap.size (w.alloc (.cells #[.int .i64 rn.id, .slice rn.a rn.n rn.c] 37)) W → (Blk W w.heap.size 37 (cM rn) ∧ MoOk W rn mn) ∧ (Blk W b30 32 (cC rd) ∧ CpR W rd cd) ∧ LmOk W L ∧ Below w.heap.size w W) := hide fun W hW => by
    have hb := bthen hbN hW
    exact ⟨⟨gN.below hW gN.lt, hmo.to hb⟩, ⟨gR.below hb gR.lt, hcp.to hb⟩, hlm.to hb, hb⟩
  clear hml gN hbN hmo gR hcp hlm hLB
  go_upto_region 34 with (fail)
  clear z0 z1 lz
  generalize (w.alloc (.cells #[.int .i64 rn.id, .slice rn.a rn.n rn.c] 37)) = w1 at *
  generalize w.heap.size = b40 at *
  obtain ⟨⟨gN, hmo⟩, ⟨gR, hcp⟩, lm, hb⟩ := HB.out w1 (Below.refl _ _)
  obtain ⟨n0, n1⟩ := gN.two
  have lN := gN.lt
  obtain ⟨q0, q1, q2, q3, q4, q5⟩ := gR.allC
  have lR := gR.lt
  have hk := u_Rebase L.A L.n L.c L.rows L.ms rn mn rd cd w1 (by omega) lm.1 lm.2 HML.out hnl HM.out.1 hmo.2 hcp
  clear gN hmo gR hcp lm hb
  go_wp2_with fail
  refine hk.mono ?_
  clear hk
  rintro e w2 ⟨r1, A1, n1', c1, rfl, hr1, hnr, hsr, hb2⟩
  clear n0 n1 lN q0 q1 q2 q3 q4 q5 lR
  have HP := hide (Below.refl w1.heap.size w1)
  have gx : Blk (w2.alloc (.cells #[.int .i64 r1.code, .int .i64 r1.mod, .int .i64 r1.x, .int .i64 r1.y, .slice r1.a r1.n r1.c, .slice r1.a2 r1.n2 r1.c2] 32)) w2.heap.size 32 (cC r1) := Blk.new w2 32 (cC r1)
  have hbx := balloc (Below.refl w2.heap.size w2) (.cells #[.int .i64 r1.code, .int .i64 r1.mod, .int .i64 r1.x, .int .i64 r1.y, .slice r1.a r1.n r1.c, .slice r1.a2 r1.n2 r1.c2] 32)
  have HBw3 : Hid (∀ W : World, Below (w2.alloc (.cells #[.int .i64 r1.code, .int .i64 r1.mod, .int .i64 r1.x, .int .i64 r1.y, .slice r1.a r1.n r1.c, .slice r1.a2 r1.n2 r1.c2] 32)).heap.size (w2.alloc (.cells #[.int .i64 r1.code, .int .i64 r1.mod, .int .i64 r1.x, .int .i64 r1.y, .slice r1.a r1.n r1.c, .slice r1.a2 r1.n2 r1.c2] 32)) W → (Blk W w2.heap.size 32 (cC r1) ∧ CpR W r1 (rbU L.ms mn cd) ∧ n1' ≤ 9223372036854775807 ∧ SlR W W.heap.size 1 A1 n1' ((rbN L.ms mn cd).flatMap cN)) ∧ Below w1.heap.size w1 W) := hide fun W hW => by
    have hb := bthen hbx hW
    exact ⟨⟨gx.below hW gx.lt, hr1.to hb, hnr, hsr.to' hb⟩, bthen HP.out (bthen hb2 hb)⟩
  clear hr1 hnr hsr hb2 gx hbx HP
  go_upto_region 35 with (fail)
  generalize (w2.alloc (.cells #[.int .i64 r1.code, .int .i64 r1.mod, .int .i64 r1.x, .int .i64 r1.y, .slice r1.a r1.n r1.c, .slice r1.a2 r1.n2 r1.c2] 32)) = w3 at *
  generalize w2.heap.size = b41 at *
  obtain ⟨⟨gN, hmo⟩, ⟨gR, hcp⟩, lm, hb⟩ := HB.out w3 (HBw3.out w3 (Below.refl _ _)).2
  obtain ⟨n0, n1⟩ := gN.two
  have lN := gN.lt
  obtain ⟨q0, q1, q2, q3, q4, q5⟩ := gR.allC
  have lR := gR.lt
  have hk := u_rRebase L.A L.n L.c L.rows L.ms rn mn rd cd w3 (by omega) lm.1 lm.2 HM.out.1 HM.out.2.1 HM.out.2.2.1 hmo.2 hcp
  clear gN hmo gR hcp lm hb
  go_wp2_with fail
  refine hk.mono ?_
  clear hk
  rintro e w4 ⟨r2, A2, n2, c2, rfl, hr1, hnr, hsr, hb2⟩
  clear n0 n1 lN q0 q1 q2 q3 q4 q5 lR
  have HP := hide (HBw3.out w3 (Below.refl _ _)).2
  have gx : Blk (w4.alloc (.cells #[.int .i64 r2.code, .int .i64 r2.mod, .int .i64 r2.x, .int .i64 r2.y, .slice r2.a r2.n r2.c, .slice r2.a2 r2.n2 r2.c2] 32)) w4.heap.size 32 (cC r2) := Blk.new w4 32 (cC r2)
  have hbx := balloc (Below.refl w4.heap.size w4) (.cells #[.int .i64 r2.code, .int .i64 r2.mod, .int .i64 r2.x, .int .i64 r2.y, .slice r2.a r2.n r2.c, .slice r2.a2 r2.n2 r2.c2] 32)
  have HBw5 : Hid (∀ W : World, Below (w4.alloc (.cells #[.int .i64 r2.code, .int .i64 r2.mod, .int .i64 r2.x, .int .i64 r2.y, .slice r2.a r2.n r2.c, .slice r2.a2 r2.n2 r2.c2] 32)).heap.size (w4.alloc (.cells #[.int .i64 r2.code, .int .i64 r2.mod, .int .i64 r2.x, .int .i64 r2.y, .slice r2.a r2.n r2.c, .slice r2.a2 r2.n2 r2.c2] 32)) W → (Blk W w4.heap.size 32 (cC r2) ∧ CpR W r2 (rbU L.ms mn cd) ∧ n2 ≤ 9223372036854775807 ∧ SlR W W.heap.size 1 A2 n2 ((rbN L.ms mn cd).flatMap cN)) ∧ Below w3.heap.size w3 W) := hide fun W hW => by
    have hb := bthen hbx hW
    exact ⟨⟨gx.below hW gx.lt, hr1.to hb, hnr, hsr.to' hb⟩, bthen hb2 hb⟩
  clear hr1 hnr hsr hb2 gx hbx HP
  go_upto_region 36 with (fail)
  generalize (w4.alloc (.cells #[.int .i64 r2.code, .int .i64 r2.mod, .int .i64 r2.x, .int .i64 r2.y, .slice r2.a r2.n r2.c, .slice r2.a2 r2.n2 r2.c2] 32)) = w5 at *
  generalize w4.heap.size = b44 at *
  have HC5 := hide (fun (W : World) (h : Below w5.heap.size w5 W) => (HBw3.out W (HBw5.out W h).2).2)
  obtain ⟨⟨gN, hmo⟩, ⟨gR, hcp⟩, lm, hb⟩ := HB.out w5 (HC5.out w5 (Below.refl _ _))
  obtain ⟨n0, n1⟩ := gN.two
  have lN := gN.lt
  obtain ⟨q0, q1, q2, q3, q4, q5⟩ := gR.allC
  have lR := gR.lt
  have hk := u_Replace L.A L.n L.c L.rows L.ms rn mn w5 (by omega) lm.1 lm.2 HML.out hnl HM.out.1 hmo.2
  clear gN hmo gR hcp lm hb
  go_wp2_with fail
  refine hk.mono ?_
  clear hk
  rintro e w6 ⟨A3, n3, c3', rs3, rfl, hn3, hs3, hm3, hb6⟩
  clear n0 n1 lN q0 q1 q2 q3 q4 q5 lR
  have H6 := hide (And.intro hb6 (And.intro hn3 (And.intro hs3 hm3)))
  clear hb6 hn3 hs3 hm3
  obtain ⟨⟨gN, hmo⟩, ⟨gR, hcp⟩, lm, hb⟩ := HB.out w6 (HC5.out w6 H6.out.1)
  obtain ⟨n0, n1⟩ := gN.two
  have lN := gN.lt
  obtain ⟨q0, q1, q2, q3, q4, q5⟩ := gR.allC
  have lR := gR.lt
  have hk := u_rReplace L.A L.n L.c L.rows L.ms rn mn w6 (by omega) lm.1 lm.2 HM.out.1 HM.out.2.1 HM.out.2.2.1 hmo.2
  clear gN hmo gR hcp lm hb
  go_wp2_with fail
  refine hk.mono ?_
  clear hk
  rintro e w7 ⟨A4, n4, c4', rs4, rfl, hn4, hs4, hm4, hb7⟩
  clear n0 n1 lN q0 q1 q2 q3 q4 q5 lR
  have H7 := hide (And.intro (bthen H6.out.1 hb7) (And.intro hb7 (And.intro hn4 (And.intro hs4 hm4))))
  clear hb7 hn4 hs4 hm4
  generalize erU (rebOk L.ms mn cd) = er1 at *
  generalize erU (rpOk L.ms mn) = er2 at *
  obtain ⟨⟨g44, k2, -, -⟩, hb57⟩ := HBw5.out w7 H7.out.1
  obtain ⟨⟨g41, k1, -, -⟩, -⟩ := HBw3.out w7 hb57
  obtain ⟨x0, x1, x2, x3, x4, x5⟩ := g41.allC
  obtain ⟨y0, y1, y2, y3, y4, y5⟩ := g44.allC
  have l41 := g41.lt
  have l44 := g44.lt
  have hk := c_rSameCopy r1 r2 _ _ w7 k1 k2
  rw [sameCp_self] at hk
  clear g44 g41 k1 k2 hb57
  go_wp2_with fail
  refine hk.mono ?_
  clear hk
  rintro e w8 ⟨rfl, hb8⟩
  clear x0 x1 x2 x3 x4 x5 y0 y1 y2 y3 y4 y5 l41 l44
  have H8 := hide (bthen H7.out.1 hb8)
  have H8' := hide (And.intro (bthen H7.out.2.1 hb8) hb8)
  clear hb8
  have hk := c_rInts A1 n1' c1 (rbN L.ms mn cd) A2 n2 c2 (rbN L.ms mn cd) w8 (HBw3.out w8 (HBw5.out w8 H8.out).2).1.2.2.1 (HBw5.out w8 H8.out).1.2.2.1 (HBw3.out w8 (HBw5.out w8 H8.out).2).1.2.2.2 (HBw5.out w8 H8.out).1.2.2.2
  rw [decide_eq_true (rfl : rbN L.ms mn cd = rbN L.ms mn cd)] at hk
  go_wp2_with fail
  refine hk.mono ?_
  clear hk
  rintro e w9 ⟨rfl, hb9⟩
  have H9 := hide (And.intro (bthen H8.out hb9) (And.intro (bthen H8'.out.1 hb9) (bthen H8'.out.2 hb9)))
  clear hb9
  have hk := c_rSameAll A3 A4 n3 c3' n4 c4' rs3 rs4 (rpU L.ms mn) w9 H6.out.2.1 (H6.out.2.2.1.to' H9.out.2.1) (H7.out.2.2.2.1.to' H9.out.2.2) (H6.out.2.2.2.to H9.out.2.1) (H7.out.2.2.2.2.to H9.out.2.2)
  go_wp2_with fail
  refine hk.mono ?_
  clear hk
  rintro e w10 ⟨rfl, hb10⟩
  have H10 := hide (HB.out w10 (HC5.out w10 (bthen H9.out.1 hb10))).2.2.2
  clear hb10
  go_wp2_with fail
  refine HQ.out _ _ ?_ H10.out
  exact ⟨rfl, rfl, fun i hi => by
    simp only [List.mem_cons, List.not_mem_nil, or_false] at hi
    rcases hi with rfl | rfl | rfl | rfl | rfl | rfl | rfl | rfl | rfl | rfl | rfl | rfl | rfl | rfl | rfl | rfl | rfl | rfl <;> first | rfl | exact H28.out.symm | exact H30.out.symm | exact H224.out.symm | exact H226.out.symm⟩

set_option linter.unusedSimpArgs false in
set_option linter.unusedVariables false in
set_option maxRecDepth 100000 in
set_option maxHeartbeats 16000000 in
theorem l4 (L : LM) (rd : CR) (cd : Cp) (b30 g : Nat) (a : Act) (w : World) (Q : Exit → Act → World → Prop) (hz : a.tmps.size = 416) (hd : a.defers = []) (h28 : sl a 28 = .slice L.A L.n L.c) (h30 : sl a 30 = .pointer (some ⟨b30, 0, none⟩)) (h224 : sl a 224 = .slice (some ⟨g, 0, none⟩) 2 2) (h225 : sl a 225 = .int .i64 2) (h226 : sl a 226 = .int .i64 (0 : Nat)) (hLB : LmB L) (hlm : LmOk w L) (gR : Blk w b30 32 (cC rd)) (hcp : CpR w rd cd)
    (hM : ∀ k : Nat, k < 2 → ∃ (rn : MR) (mn : Mo), ∀ W : World, Below w.heap.size w W → MoOk W rn mn ∧ W.cell? ⟨g, k * 2, none⟩ = some (.int .i64 rn.id) ∧ W.cell? ⟨g, k * 2 + 1, none⟩ = some (.slice rn.a rn.n rn.c))
    (hQ : ∀ (a' : Act) (W : World), Kp [19, 1, 2, 16, 23, 25, 26, 28, 30, 136, 137, 138, 149, 150, 151, 224, 225] a a' → Below w.heap.size w W → Q .normal a' W) : (blk 4).wp Tryz.prog Q a w := by
  conv => arg 2; whnf
  rw [show Code.block 5 _ = blk 5 from rfl]
  refine wp_block (wp_loop_ghost_k (fun n a' W => ∃ k : Nat, k + n = 2 ∧ Kp [19, 1, 2, 16, 23, 25, 26, 28, 30, 136, 137, 138, 149, 150, 151, 224, 225] a a' ∧ sl a' 226 = .int .i64 k ∧ Below w.heap.size w W) 2 ⟨0, rfl, Kp.refl hz hd, h226, Below.refl _ _⟩ ?_)
  rintro n a1 W ⟨k, hk, hK, hs, hb⟩ J K hJ hKK
  obtain ⟨u, rfl⟩ : ∃ u, a1 = frm u := ⟨sl a1, act_frm hK.1 hK.2.1⟩
  have e28 := (sl_frm u 28 (by decide)).symm.trans ((hK.2.2 28 (by decide)).trans h28)
  have e30 := (sl_frm u 30 (by decide)).symm.trans ((hK.2.2 30 (by decide)).trans h30)
  have e224 := (sl_frm u 224 (by decide)).symm.trans ((hK.2.2 224 (by decide)).trans h224)
  have e225 := (sl_frm u 225 (by decide)).symm.trans ((hK.2.2 225 (by decide)).trans h225)
  have e226 := (sl_frm u 226 (by decide)).symm.trans hs
  have HK := hide hK
  have HJ := hide hJ
  have HQ := hide hQ
  have HM := hide hM
  have HE := hide (And.intro e28 (And.intro e30 (And.intro e224 (And.intro e225 e226))))
  clear hK hJ hQ hM hs h28 h30 h224 h225 h226
  unfold frm
  rw [e28, e30, e224, e225, e226]
  clear e28 e30 e224 e225 e226
  by_cases hlt : k < 2
  · have hlt' : (k : Int) < 2 := by omega
    go_wp2_with fail
    rename_i K2 hK2
    obtain ⟨rn, mn, hM⟩ := HM.out k hlt
    obtain ⟨m1, m2, m3⟩ := hM W hb
    refine p5 L rd cd rn mn b30 g k _ W _ (by rfl) (by rfl) (by rfl) (by rfl) (by rfl) (by rfl) hLB (hlm.to hb) (gR.below hb gR.lt) (hcp.to hb) m1 hlt m2 m3 ?_
    intro a2 W2 hK' hb'
    have h1 : Kp [19, 1, 2, 16, 23, 25, 26, 28, 30, 136, 137, 138, 149, 150, 151, 224, 225] a a2 := (HK.out.trans (by exact ⟨rfl, rfl, fun i hi => by
    simp only [List.mem_cons, List.not_mem_nil, or_false] at hi
    rcases hi with rfl | rfl | rfl | rfl | rfl | rfl | rfl | rfl | rfl | rfl | rfl | rfl | rfl | rfl | rfl | rfl | rfl <;> first | rfl | exact HE.out.1.symm | exact HE.out.2.1.symm | exact HE.out.2.2.1.symm | exact HE.out.2.2.2.1.symm⟩ : Kp [19, 1, 2, 16, 23, 25, 26, 28, 30, 136, 137, 138, 149, 150, 151, 224, 225] (frm u) _)).trans (hK'.sub (by rfl))
    have hs' : sl a2 226 = .int .i64 k := (hK'.2.2 226 (by decide)).trans rfl
    clear hK'
    refine hK2 _ _ ?_
    obtain ⟨u2, rfl⟩ : ∃ u2, a2 = frm u2 := ⟨sl a2, act_frm h1.1 h1.2.1⟩
    have e := (sl_frm u2 226 (by decide)).symm.trans hs'
    have HE2 := hide e
    have H1 := hide h1
    clear hs' h1 hK2
    unfold frm
    rw [e]
    clear e
    go_wp2_with fail
    refine Handed.intro (n - 1) (by omega) (HJ.out _ _ _ ⟨k + 1, by omega, H1.out.trans ?_, ?_, bthen hb hb'⟩)
    · exact ⟨rfl, rfl, fun i hi => by
        simp only [List.mem_cons, List.not_mem_nil, or_false] at hi
        rcases hi with rfl | rfl | rfl | rfl | rfl | rfl | rfl | rfl | rfl | rfl | rfl | rfl | rfl | rfl | rfl | rfl | rfl <;> first | rfl | exact HE2.out.symm⟩
    · first | rfl | (show Value.int .i64 _ = Value.int .i64 _; congr 1; omega)
  · obtain rfl : k = 2 := by omega
    go_wp2_with fail
    refine HQ.out _ _ (HK.out.trans ?_) hb
    exact ⟨rfl, rfl, fun i hi => by
    simp only [List.mem_cons, List.not_mem_nil, or_false] at hi
    rcases hi with rfl | rfl | rfl | rfl | rfl | rfl | rfl | rfl | rfl | rfl | rfl | rfl | rfl | rfl | rfl | rfl | rfl <;> first | rfl | exact HE.out.1.symm | exact HE.out.2.1.symm | exact HE.out.2.2.1.symm | exact HE.out.2.2.2.1.symm⟩

end Go.Proofs.YtncdombfhcfobaaGreat
/- ModuleMatchesReference, in pieces: the second loop's round. -/
namespace Go.Proofs.YtncdombfhcfobaaGreat
open Go.RowKit Go.Shelf

set_option linter.unusedSimpArgs false in
set_option linter.unusedVariables false in
set_option maxRecDepth 100000 in
set_option maxHeartbeats 16000000 in
theorem b3 (L : LM) (rO rd : CR) (cO cd : Cp) (r25 r26 : MR) (m25 m26 : Mo) (b23 b25 b26 gD j : Nat) (a : Act) (w : World) (Q : Exit → Act → World → Prop) (hz : a.tmps.size = 416) (hd : a.defers = []) (h23 : sl a 23 = .pointer (some ⟨b23, 0, none⟩)) (h25 : sl a 25 = .pointer (some ⟨b25, 0, none⟩)) (h26 : sl a 26 = .pointer (some ⟨b26, 0, none⟩)) (h28 : sl a 28 = .slice L.A L.n L.c) (h149 : sl a 149 = .slice (some ⟨gD, 0, none⟩) 2 2) (h151 : sl a 151 = .int .i64 j) (hLB : LmB L) (hlm : LmOk w L) (hcO : CpR w rO cO) (gO : Blk w b23 32 (cC rO)) (g25 : Blk w b25 37 (cM r25)) (h25m : MoOk w r25 m25) (g26 : Blk w b26 37 (cM r26)) (h26m : MoOk w r26 m26) (hj : j < 2) (hcp : CpR w rd cd)
    (z0 : w.cell? ⟨gD, j * 6, none⟩ = some (.int .i64 rd.code)) (z1 : w.cell? ⟨gD, j * 6 + 1, none⟩ = some (.int .i64 rd.mod)) (z2 : w.cell? ⟨gD, j * 6 + 2, none⟩ = some (.int .i64 rd.x)) (z3 : w.cell? ⟨gD, j * 6 + 3, none⟩ = some (.int .i64 rd.y)) (z4 : w.cell? ⟨gD, j * 6 + 4, none⟩ = some (.slice rd.a rd.n rd.c)) (z5 : w.cell? ⟨gD, j * 6 + 5, none⟩ = some (.slice rd.a2 rd.n2 rd.c2))
    (hQ : ∀ (a' : Act) (W : World), Kp [19, 1, 2, 16, 23, 25, 26, 28, 136, 137, 138, 149, 150, 151] a a' → Below w.heap.size w W → Q .normal a' W) : (blk 3).wp Tryz.prog Q a w := by
  conv => arg 2; whnf
  rw [show Code.block 4 _ = blk 4 from rfl]
  obtain ⟨u, rfl⟩ : ∃ u, a = frm u := ⟨sl a, act_frm hz hd⟩
  clear hz hd
  rw [sl_frm u 23 (by decide)] at h23
  rw [sl_frm u 25 (by decide)] at h25
  rw [sl_frm u 26 (by decide)] at h26
  rw [sl_frm u 28 (by decide)] at h28
  rw [sl_frm u 149 (by decide)] at h149
  rw [sl_frm u 151 (by decide)] at h151
  have H23 := hide h23
  have H25 := hide h25
  have H26 := hide h26
  have H28 := hide h28
  have H149 := hide h149
  have H151 := hide h151
  have HQ := hide hQ
  unfold frm
  rw [h23, h25, h26, h28, h149, h151]
  clear h23 h25 h26 h28 h149 h151 hQ
  have hjl' : (j : Int) < 2 := by omega
  have hLn := hLB.1
  have hLn63 : L.n ≤ 9223372036854775807 := by omega
  have lz := World.block_lt_of_cell? w _ z0
  have gR : Blk (w.alloc (.cells #[.int .i64 rd.code, .int .i64 rd.mod, .int .i64 rd.x, .int .i64 rd.y, .slice rd.a rd.n rd.c, .slice rd.a2 rd.n2 rd.c2] 32)) w.heap.size 32 (cC rd) := Blk.new w 32 (cC rd)
  have hbR := balloc (Below.refl w.heap.size w) (.cells #[.int .i64 rd.code, .int .i64 rd.mod, .int .i64 rd.x, .int .i64 rd.y, .slice rd.a rd.n rd.c, .slice rd.a2 rd.n2 rd.c2] 32)
  have HLB := hide hLB
  have HB : Hid (∀ W : World, Below (w.alloc (.cells #[.int .i64 rd.code, .int .i64 rd.mod, .int .i64 rd.x, .int .i64 rd.y, .slice rd.a rd.n rd.c, .slice rd.a2 rd.n2 rd.c2] 32)).heap.size (w.alloc (.cells #[.int .i64 rd.code, .int .i64 rd.mod, .int .i64 rd.x, .int .i64 rd.y, .slice rd.a rd.n rd.c, .slice rd.a2 rd.n2 rd.c2] 32)) W → (Blk W w.heap.size 32 (cC rd) ∧ CpR W rd cd) ∧ (CpR W rO cO ∧ Blk W b23 32 (cC rO)) ∧ LmOk W L ∧ ((Blk W b25 37 (cM r25) ∧ MoOk W r25 m25) ∧ (Blk W b26 37 (cM r26) ∧ MoOk W r26 m26)) ∧ Below w.heap.size w W) := hide fun W hW => by
    have hb := bthen hbR hW
    exact ⟨⟨gR.below hW gR.lt, hcp.to hb⟩, ⟨hcO.to hb, gO.below hb gO.lt⟩, hlm.to hb, ⟨⟨g25.below hb g25.lt, h25m.to hb⟩, ⟨g26.below hb g26.lt, h26m.to hb⟩⟩, hb⟩
  clear gR hbR hLB hcp hcO gO hlm g25 h25m g26 h26m
  go_upto_region 23 with (fail)
  clear z0 z1 z2 z3 z4 z5 lz
  generalize (w.alloc (.cells #[.int .i64 rd.code, .int .i64 rd.mod, .int .i64 rd.x, .int .i64 rd.y, .slice rd.a rd.n rd.c, .slice rd.a2 rd.n2 rd.c2] 32)) = w17 at *
  generalize w.heap.size = b30 at *
  have HV1 := hide (fun (x : BW w17) => c_ValidCopy L.A L.n L.c L.rows L.ms rd cd x.val hLn63 (HB.out x.val x.ok).2.2.1.1 (HB.out x.val x.ok).2.2.1.2 (HB.out x.val x.ok).1.2)
  have HV2 := hide (fun (x : BW w17) => c_rValidCopy L.A L.n L.c L.rows L.ms rd cd x.val hLn63 (HB.out x.val x.ok).2.2.1.1 (HB.out x.val x.ok).2.2.1.2 (HB.out x.val x.ok).1.2)
  have HV3 := hide (fun (x : BW w17) => c_ProperCopy rd cd x.val (HB.out x.val x.ok).1.2)
  have HV4 := hide (fun (x : BW w17) => c_rProperCopy rd cd x.val (HB.out x.val x.ok).1.2)
  have HV5 := hide (fun (x : BW w17) => c_SameCopy rd rO cd cO x.val (HB.out x.val x.ok).1.2 (HB.out x.val x.ok).2.1.1)
  have HV6 := hide (fun (x : BW w17) => c_rSameCopy rd rO cd cO x.val (HB.out x.val x.ok).1.2 (HB.out x.val x.ok).2.1.1)
  generalize validCopyB L.ms cd = v1 at HV1 HV2
  generalize cpOk cd = v2 at HV3 HV4
  generalize sameCp cd cO = v3 at HV5 HV6
  have fq := fun (x : BW w17) => ((HB.out x.val x.ok).1.1).allC
  have fy := fun (x : BW w17) => ((HB.out x.val x.ok).2.1.2).allC
  have fq0 := fun x => (fq x).1
  have fq1 := fun x => (fq x).2.1
  have fq2 := fun x => (fq x).2.2.1
  have fq3 := fun x => (fq x).2.2.2.1
  have fq4 := fun x => (fq x).2.2.2.2.1
  have fq5 := fun x => (fq x).2.2.2.2.2
  have fy0 := fun x => (fy x).1
  have fy1 := fun x => (fy x).2.1
  have fy2 := fun x => (fy x).2.2.1
  have fy3 := fun x => (fy x).2.2.2.1
  have fy4 := fun x => (fy x).2.2.2.2.1
  have fy5 := fun x => (fy x).2.2.2.2.2
  have lR := (HB.out w17 (Below.refl _ _)).1.1.lt
  have lO := (HB.out w17 (Below.refl _ _)).2.1.2.lt
  clear fq fy
  refine wp_region_bw w17 (Below.refl _ _) (by kernel_rfl) (by kernel_rfl) ?_
  repeat (go_big_quiet_step (first | (go_at_call 13; exact bw_call (HV1.out _)) | (go_at_call 14; exact bw_call (HV2.out _)) | (go_at_call 15; exact bw_call (HV3.out _)) | (go_at_call 16; exact bw_call (HV4.out _)) | (go_at_call 17; exact bw_call (HV5.out _)) | (go_at_call 18; exact bw_call (HV6.out _))))
  refine wpQuiet_nil ?_
  intro w18 hb18
  clear fq0 fq1 fq2 fq3 fq4 fq5 fy0 fy1 fy2 fy3 fy4 fy5 lR lO HV1 HV2 HV3 HV4 HV5 HV6
  obtain ⟨⟨gR, hcp⟩, -, lm, -⟩ := HB.out w18 hb18
  obtain ⟨q0, q1, q2, q3, q4, q5⟩ := gR.allC
  have lR := gR.lt
  have hk := u_Items L.A L.n L.c L.rows L.ms rd cd w18 hLn63 lm.1 lm.2 hcp
  clear gR hcp lm
  go_wp2_with fail
  refine hk.mono ?_
  clear hk
  rintro e w19 ⟨Ai, ni, ci, rfl, hni, hsi, hb19⟩
  have H19 := hide (And.intro (bthen hb18 hb19) (And.intro hni hsi))
  clear hni hsi hb19 q0 q1 q2 q3 q4 q5 lR
  obtain ⟨⟨gR, hcp⟩, -, lm, -⟩ := HB.out w19 H19.out.1
  obtain ⟨q0, q1, q2, q3, q4, q5⟩ := gR.allC
  have lR := gR.lt
  have hk := u_rItems L.A L.n L.c L.rows L.ms rd cd w19 hLn63 lm.1 lm.2 hcp
  clear gR hcp lm
  go_wp2_with fail
  refine hk.mono ?_
  clear hk
  rintro e w20 ⟨Aj, nj, cj, rfl, hni, hsi, hb20⟩
  have H20 := hide (And.intro (bthen H19.out.1 hb20) (And.intro hb20 (And.intro hni hsi)))
  clear hni hsi hb20 q0 q1 q2 q3 q4 q5 lR
  obtain ⟨⟨gR, hcp⟩, -, lm, -⟩ := HB.out w20 H20.out.1
  obtain ⟨q0, q1, q2, q3, q4, q5⟩ := gR.allC
  have lR := gR.lt
  have hk := u_Expand L.A L.n L.c L.rows L.ms rd cd w20 hLn63 lm.1 lm.2 hcp
  clear gR hcp lm
  go_wp2_with fail
  refine hk.mono ?_
  clear hk
  rintro e w21 ⟨Ae, ne, ce, rse, rfl, hne, hse, hpe, hb21⟩
  have H21 := hide (And.intro (bthen H20.out.1 hb21) (And.intro hb21 (And.intro hne (And.intro hse hpe))))
  clear hne hse hpe hb21 q0 q1 q2 q3 q4 q5 lR
  obtain ⟨⟨gR, hcp⟩, -, lm, -⟩ := HB.out w21 H21.out.1
  obtain ⟨q0, q1, q2, q3, q4, q5⟩ := gR.allC
  have lR := gR.lt
  have hk := u_rExpand L.A L.n L.c L.rows L.ms rd cd w21 hLn63 lm.1 lm.2 hcp
  clear gR hcp lm
  go_wp2_with fail
  refine hk.mono ?_
  clear hk
  rintro e w22 ⟨Af, nf, cf, rsf, rfl, hne, hse, hpe, hb22⟩
  have H22 := hide (And.intro (bthen H21.out.1 hb22) (And.intro hb22 (And.intro hne (And.intro hse hpe))))
  clear hne hse hpe hb22 q0 q1 q2 q3 q4 q5 lR
  generalize erU (validCopyB L.ms cd) = er1 at *
  generalize erU (exB L.ms cd) = er2 at *
  have hk := c_rSameItems Ai ni ci (itU L.ms cd) Aj nj cj (itU L.ms cd) w22 H19.out.2.1 H20.out.2.2.1 (H19.out.2.2.to' (bthen H20.out.2.1 (bthen H21.out.2.1 H22.out.2.1))) (H20.out.2.2.2.to' (bthen H21.out.2.1 H22.out.2.1))
  rw [decide_eq_true (rfl : itU L.ms cd = itU L.ms cd)] at hk
  go_wp2_with fail
  refine hk.mono ?_
  clear hk
  rintro e w23 ⟨rfl, hb23⟩
  have hk := c_rSamePlaced Ae ne ce rse (exU L.ms cd) Af nf cf rsf (exU L.ms cd) w23 H21.out.2.2.1 H22.out.2.2.1 (H21.out.2.2.2.1.to' (bthen H22.out.2.1 hb23)) (H22.out.2.2.2.1.to' hb23) (H21.out.2.2.2.2.to (bthen H22.out.2.1 hb23)) (H22.out.2.2.2.2.to hb23)
  rw [decide_eq_true (rfl : exU L.ms cd = exU L.ms cd)] at hk
  have H23 := hide (bthen H22.out.1 hb23)
  clear hb23
  go_wp2_with fail
  refine hk.mono ?_
  clear hk
  rintro e w24 ⟨rfl, hb24⟩
  have H24 := hide (bthen H23.out hb24)
  clear hb24 H19 H20 H21 H22 H23
  obtain ⟨-, -, -, ⟨⟨g25, k25⟩, ⟨g26, k26⟩⟩, -⟩ := HB.out w24 H24.out
  obtain ⟨x0, x1⟩ := g25.two
  obtain ⟨y0, y1⟩ := g26.two
  have l25 := g25.lt
  have l26 := g26.lt
  have gM : Blk (w24.alloc (.cells #[.int .i64 r25.id, .slice r25.a r25.n r25.c, .int .i64 r26.id, .slice r26.a r26.n r26.c] 37)) w24.heap.size 37 (cM r25 ++ cM r26) := Blk.new w24 37 (cM r25 ++ cM r26)
  have hbM := balloc (Below.refl w24.heap.size w24) (.cells #[.int .i64 r25.id, .slice r25.a r25.n r25.c, .int .i64 r26.id, .slice r26.a r26.n r26.c] 37)
  have HM : Hid (∀ k : Nat, k < 2 → ∃ (rn : MR) (mn : Mo), ∀ W : World, Below (w24.alloc (.cells #[.int .i64 r25.id, .slice r25.a r25.n r25.c, .int .i64 r26.id, .slice r26.a r26.n r26.c] 37)).heap.size (w24.alloc (.cells #[.int .i64 r25.id, .slice r25.a r25.n r25.c, .int .i64 r26.id, .slice r26.a r26.n r26.c] 37)) W → MoOk W rn mn ∧ W.cell? ⟨w24.heap.size, k * 2, none⟩ = some (.int .i64 rn.id) ∧ W.cell? ⟨w24.heap.size, k * 2 + 1, none⟩ = some (.slice rn.a rn.n rn.c)) := hide (by
    intro k hk
    obtain rfl | rfl : k = 0 ∨ k = 1 := by omega
    · refine ⟨r25, m25, fun W hW => ?_⟩
      have g := gM.below hW gM.lt
      exact ⟨k25.to (bthen hbM hW), g.cell 0, g.cell 1⟩
    · refine ⟨r26, m26, fun W hW => ?_⟩
      have g := gM.below hW gM.lt
      exact ⟨k26.to (bthen hbM hW), g.cell 2, g.cell 3⟩)
  have H25x := hide (bthen H24.out hbM)
  clear g25 g26 k25 k26 gM hbM H24
  go_wp2_with fail
  clear x0 x1 y0 y1 l25 l26
  generalize (w24.alloc (.cells #[.int .i64 r25.id, .slice r25.a r25.n r25.c, .int .i64 r26.id, .slice r26.a r26.n r26.c] 37)) = w26 at *
  generalize w24.heap.size = gM at *
  obtain ⟨⟨gR, hcp⟩, -, lm, -, hbw⟩ := HB.out w26 H25x.out
  refine l4 L rd cd b30 gM _ w26 _ (by rfl) (by rfl) (by rfl) (by rfl) (by rfl) (by rfl) (by rfl) HLB.out lm gR hcp HM.out ?_
  intro a' W hK' hb'
  have hKp := hK'.sub (K' := [19, 1, 2, 16, 23, 25, 26, 28, 136, 137, 138, 149, 150, 151]) (by rfl)
  show Q .normal a' W
  refine HQ.out a' W (Kp.trans ?_ hKp) (HB.out W (bthen H25x.out hb')).2.2.2.2
  exact ⟨rfl, rfl, fun i hi => by
    simp only [List.mem_cons, List.not_mem_nil, or_false] at hi
    rcases hi with rfl | rfl | rfl | rfl | rfl | rfl | rfl | rfl | rfl | rfl | rfl | rfl | rfl | rfl <;> first | rfl | exact H23.out.symm | exact H25.out.symm | exact H26.out.symm | exact H28.out.symm | exact H149.out.symm | exact H151.out.symm⟩

set_option linter.unusedSimpArgs false in
set_option linter.unusedVariables false in
set_option maxRecDepth 100000 in
set_option maxHeartbeats 16000000 in
theorem l2 (L : LM) (rO : CR) (cO : Cp) (r25 r26 : MR) (m25 m26 : Mo) (b23 b25 b26 gD : Nat) (a : Act) (w : World) (Q : Exit → Act → World → Prop) (hz : a.tmps.size = 416) (hd : a.defers = []) (h23 : sl a 23 = .pointer (some ⟨b23, 0, none⟩)) (h25 : sl a 25 = .pointer (some ⟨b25, 0, none⟩)) (h26 : sl a 26 = .pointer (some ⟨b26, 0, none⟩)) (h28 : sl a 28 = .slice L.A L.n L.c) (h149 : sl a 149 = .slice (some ⟨gD, 0, none⟩) 2 2) (h150 : sl a 150 = .int .i64 2) (h151 : sl a 151 = .int .i64 (0 : Nat)) (hLB : LmB L) (hlm : LmOk w L) (hcO : CpR w rO cO) (gO : Blk w b23 32 (cC rO)) (g25 : Blk w b25 37 (cM r25)) (h25m : MoOk w r25 m25) (g26 : Blk w b26 37 (cM r26)) (h26m : MoOk w r26 m26)
    (hM : ∀ j : Nat, j < 2 → ∃ (rd : CR) (cd : Cp), ∀ W : World, Below w.heap.size w W → CpR W rd cd ∧ W.cell? ⟨gD, j * 6, none⟩ = some (.int .i64 rd.code) ∧ W.cell? ⟨gD, j * 6 + 1, none⟩ = some (.int .i64 rd.mod) ∧ W.cell? ⟨gD, j * 6 + 2, none⟩ = some (.int .i64 rd.x) ∧ W.cell? ⟨gD, j * 6 + 3, none⟩ = some (.int .i64 rd.y) ∧ W.cell? ⟨gD, j * 6 + 4, none⟩ = some (.slice rd.a rd.n rd.c) ∧ W.cell? ⟨gD, j * 6 + 5, none⟩ = some (.slice rd.a2 rd.n2 rd.c2))
    (hQ : ∀ (a' : Act) (W : World), Kp [19, 1, 2, 16, 23, 25, 26, 28, 136, 137, 138, 149, 150] a a' → Below w.heap.size w W → Q .normal a' W) : (blk 2).wp Tryz.prog Q a w := by
  conv => arg 2; whnf
  rw [show Code.block 3 _ = blk 3 from rfl]
  refine wp_block (wp_loop_ghost_k (fun n a' W => ∃ k : Nat, k + n = 2 ∧ Kp [19, 1, 2, 16, 23, 25, 26, 28, 136, 137, 138, 149, 150] a a' ∧ sl a' 151 = .int .i64 k ∧ Below w.heap.size w W) 2 ⟨0, by omega, Kp.refl hz hd, h151, Below.refl _ _⟩ ?_)
  rintro n a1 W ⟨k, hk, hK, hs, hb⟩ J K hJ hKK
  obtain ⟨u, rfl⟩ : ∃ u, a1 = frm u := ⟨sl a1, act_frm hK.1 hK.2.1⟩
  have e23 := (sl_frm u 23 (by decide)).symm.trans ((hK.2.2 23 (by decide)).trans h23)
  have e25 := (sl_frm u 25 (by decide)).symm.trans ((hK.2.2 25 (by decide)).trans h25)
  have e26 := (sl_frm u 26 (by decide)).symm.trans ((hK.2.2 26 (by decide)).trans h26)
  have e28 := (sl_frm u 28 (by decide)).symm.trans ((hK.2.2 28 (by decide)).trans h28)
  have e149 := (sl_frm u 149 (by decide)).symm.trans ((hK.2.2 149 (by decide)).trans h149)
  have e150 := (sl_frm u 150 (by decide)).symm.trans ((hK.2.2 150 (by decide)).trans h150)
  have e151 := (sl_frm u 151 (by decide)).symm.trans hs
  have HK := hide hK
  have HJ := hide hJ
  have HQ := hide hQ
  have HM := hide hM
  have H23 := hide e23
  have H25 := hide e25
  have H26 := hide e26
  have H28 := hide e28
  have H149 := hide e149
  have H150 := hide e150
  clear hK hJ hQ hM hs h23 h25 h26 h28 h149 h150 h151

  unfold frm
  rw [e23, e25, e26, e28, e149, e150, e151]
  clear e23 e25 e26 e28 e149 e150 e151
  by_cases hlt : k < 2
  · have hlt' : (k : Int) < 2 := by omega
    go_wp2_with fail
    rename_i K2 hK2
    obtain ⟨rd, cd, hM⟩ := HM.out k hlt
    obtain ⟨hcd, z0, z1, z2, z3, z4, z5⟩ := hM W hb
    refine b3 L rO rd cO cd r25 r26 m25 m26 b23 b25 b26 gD k _ W _ (by rfl) (by rfl) (by rfl) (by rfl) (by rfl) (by rfl) (by rfl) (by rfl) hLB (hlm.to hb) (hcO.to hb) (gO.below hb gO.lt) (g25.below hb g25.lt) (h25m.to hb) (g26.below hb g26.lt) (h26m.to hb) hlt hcd z0 z1 z2 z3 z4 z5 ?_
    intro a2 W2 hK' hb'
    have h1 : Kp [19, 1, 2, 16, 23, 25, 26, 28, 136, 137, 138, 149, 150] a a2 := (HK.out.trans (by exact ⟨rfl, rfl, fun i hi => by
    simp only [List.mem_cons, List.not_mem_nil, or_false] at hi
    rcases hi with rfl | rfl | rfl | rfl | rfl | rfl | rfl | rfl | rfl | rfl | rfl | rfl | rfl <;> first | rfl | exact H23.out.symm | exact H25.out.symm | exact H26.out.symm | exact H28.out.symm | exact H149.out.symm | exact H150.out.symm⟩ : Kp [19, 1, 2, 16, 23, 25, 26, 28, 136, 137, 138, 149, 150] (frm u) _)).trans (hK'.sub (by rfl))
    have hs' : sl a2 151 = .int .i64 k := (hK'.2.2 151 (by decide)).trans rfl
    clear hK'
    refine hK2 _ _ ?_
    obtain ⟨u2, rfl⟩ : ∃ u2, a2 = frm u2 := ⟨sl a2, act_frm h1.1 h1.2.1⟩
    have e := (sl_frm u2 151 (by decide)).symm.trans hs'
    have HE2 := hide e
    have H1 := hide h1
    clear hs' h1 hK2
    unfold frm
    rw [e]
    clear e
    go_wp2_with fail
    refine Handed.intro (n - 1) (by omega) (HJ.out _ _ _ ⟨k + 1, by omega, H1.out.trans ?_, ?_, bthen hb hb'⟩)
    · exact ⟨rfl, rfl, fun i hi => by
    simp only [List.mem_cons, List.not_mem_nil, or_false] at hi
    rcases hi with rfl | rfl | rfl | rfl | rfl | rfl | rfl | rfl | rfl | rfl | rfl | rfl | rfl <;> first | rfl | exact HE2.out.symm⟩
    · first | rfl | (show Value.int .i64 _ = Value.int .i64 _; congr 1; omega)
  · obtain rfl : k = 2 := by omega
    go_wp2_with fail
    refine HQ.out _ _ (HK.out.trans ?_) hb
    exact ⟨rfl, rfl, fun i hi => by
    simp only [List.mem_cons, List.not_mem_nil, or_false] at hi
    rcases hi with rfl | rfl | rfl | rfl | rfl | rfl | rfl | rfl | rfl | rfl | rfl | rfl | rfl <;> first | rfl | exact H23.out.symm | exact H25.out.symm | exact H26.out.symm | exact H28.out.symm | exact H149.out.symm | exact H150.out.symm⟩

end Go.Proofs.YtncdombfhcfobaaGreat
