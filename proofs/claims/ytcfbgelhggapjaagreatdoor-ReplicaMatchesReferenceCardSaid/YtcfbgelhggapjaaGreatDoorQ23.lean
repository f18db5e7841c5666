/- The law against the reference, in pieces of code: frames. -/
import Derived.Test.YtcfbgelhggapjaaGreatDoorQ22
namespace Go.Proofs.YtcfbgelhggapjaaGreatDoor
open Go.RowKit Go.Shelf
theorem blk4 {W : World} {b : Nat} {t : TypeId} {a0 a1 a2 a3 : Value} (h : Blk W b t [a0, a1, a2, a3]) : W.cell? ⟨b, 0, none⟩ = some a0 ∧ W.cell? ⟨b, 1, none⟩ = some a1 ∧ W.cell? ⟨b, 2, none⟩ = some a2 ∧ W.cell? ⟨b, 3, none⟩ = some a3 :=
  ⟨h.cell 0, h.cell 1, h.cell 2, h.cell 3⟩
/-! frames of the law's function -/
set_option maxRecDepth 100000 in
def frm (u : Nat → Value) : Act := ⟨#[u 0, u 1, u 2, u 3, u 4, u 5, u 6, u 7, u 8, u 9, u 10, u 11, u 12, u 13, u 14, u 15, u 16, u 17, u 18, u 19, u 20, u 21, u 22, u 23, u 24, u 25, u 26, u 27, u 28, u 29, u 30, u 31, u 32, u 33, u 34, u 35, u 36, u 37, u 38, u 39, u 40, u 41, u 42, u 43, u 44, u 45, u 46, u 47, u 48, u 49, u 50, u 51, u 52, u 53, u 54, u 55, u 56, u 57, u 58, u 59, u 60, u 61, u 62, u 63, u 64, u 65, u 66, u 67, u 68, u 69, u 70, u 71, u 72, u 73, u 74, u 75, u 76, u 77, u 78, u 79, u 80, u 81, u 82, u 83, u 84, u 85, u 86, u 87, u 88, u 89, u 90, u 91, u 92, u 93, u 94, u 95, u 96, u 97, u 98, u 99, u 100, u 101, u 102, u 103, u 104, u 105, u 106, u 107, u 108, u 109, u 110, u 111, u 112, u 113, u 114, u 115, u 116, u 117, u 118, u 119, u 120, u 121, u 122, u 123, u 124, u 125, u 126, u 127, u 128, u 129, u 130, u 131, u 132, u 133, u 134, u 135, u 136, u 137, u 138, u 139, u 140, u 141, u 142, u 143, u 144, u 145, u 146, u 147, u 148, u 149, u 150, u 151, u 152, u 153, u 154, u 155, u 156, u 157, u 158, u 159, u 160, u 161, u 162, u 163, u 164, u 165, u 166, u 167, u 168, u 169, u 170, u 171, u 172, u 173, u 174, u 175, u 176, u 177, u 178, u 179, u 180, u 181, u 182, u 183, u 184, u 185, u 186, u 187, u 188, u 189, u 190, u 191, u 192, u 193, u 194, u 195, u 196, u 197, u 198, u 199, u 200, u 201, u 202, u 203, u 204, u 205, u 206, u 207, u 208, u 209, u 210, u 211, u 212, u 213, u 214, u 215, u 216, u 217, u 218, u 219, u 220, u 221, u 222, u 223, u 224, u 225, u 226, u 227, u 228, u 229, u 230, u 231, u 232, u 233, u 234, u 235, u 236, u 237, u 238, u 239, u 240, u 241, u 242, u 243, u 244, u 245, u 246, u 247, u 248, u 249, u 250, u 251, u 252, u 253, u 254, u 255, u 256, u 257, u 258, u 259, u 260, u 261, u 262, u 263, u 264, u 265, u 266, u 267, u 268, u 269, u 270, u 271, u 272, u 273, u 274, u 275, u 276, u 277, u 278, u 279, u 280, u 281, u 282, u 283, u 284, u 285, u 286, u 287, u 288, u 289, u 290, u 291, u 292, u 293, u 294, u 295, u 296, u 297, u 298, u 299, u 300, u 301, u 302, u 303, u 304, u 305, u 306, u 307, u 308, u 309, u 310, u 311, u 312, u 313, u 314, u 315, u 316, u 317, u 318, u 319, u 320, u 321, u 322, u 323, u 324, u 325, u 326, u 327, u 328, u 329, u 330, u 331, u 332, u 333, u 334, u 335, u 336, u 337, u 338, u 339, u 340, u 341, u 342, u 343, u 344, u 345, u 346, u 347, u 348, u 349, u 350, u 351, u 352, u 353, u 354, u 355, u 356, u 357, u 358], []⟩
def sl (a : Act) (i : Nat) : Value := a.tmps.getD i undef
set_option maxRecDepth 100000 in
theorem frm_list (u : Nat → Value) : frm u = ⟨((List.range 359).map u).toArray, []⟩ := by kernel_rfl
theorem act_frm {a : Act} (hz : a.tmps.size = 359) (hd : a.defers = []) : a = frm (sl a) := by
  rw [frm_list]
  obtain ⟨t, d⟩ := a
  simp only at hz hd
  subst hd
  congr 1
  refine Array.ext (by simp [hz]) (fun i h1 h2 => ?_)
  simp [sl, Array.getD, h1]
/-- what a piece of code leaves -/
def Kp (K : List Nat) (a a' : Act) : Prop := a'.tmps.size = 359 ∧ a'.defers = [] ∧ ∀ i ∈ K, sl a' i = sl a i
theorem Kp.trans {K : List Nat} {a b c : Act} (h : Kp K a b) (k : Kp K b c) : Kp K a c := ⟨k.1, k.2.1, fun i hi => (k.2.2 i hi).trans (h.2.2 i hi)⟩
theorem Kp.sub {K K' : List Nat} {a b : Act} (h : Kp K a b) (hs : K'.all K.contains = true) : Kp K' a b := ⟨h.1, h.2.1, fun i hi => h.2.2 i (by simpa using List.all_eq_true.1 hs i hi)⟩
theorem Kp.refl {K : List Nat} {a : Act} (hz : a.tmps.size = 359) (hd : a.defers = []) : Kp K a a := ⟨hz, hd, fun _ _ => rfl⟩
set_option maxRecDepth 100000 in
theorem sl_frm (u : Nat → Value) (i : Nat) (h : i < 359) : sl (frm u) i = u i := by
  rw [frm_list]
  simp [sl, Array.getD, h]
/-! pieces of code -/
def findB (n : Nat) : Code → Option Code
  | .seq a b => match findB n a with
    | some c => some c
    | none => findB n b
  | .block m c => if m = n then some (.block m c) else findB n c
  | .loop c => findB n c
  | .scope c => findB n c
  | .cond _ a b => match findB n a with
    | some c => some c
    | none => findB n b
  | _ => none
noncomputable def blk (n : Nat) : Code := ((Tryz.f3.body.bind (findB n)).getD .skip)
end Go.Proofs.YtcfbgelhggapjaaGreatDoor
/- The law against the reference: loop 4. -/
namespace Go.Proofs.YtcfbgelhggapjaaGreatDoor
open Go.RowKit Go.Shelf
set_option linter.unusedSimpArgs false in
set_option linter.unusedVariables false in
set_option maxRecDepth 100000 in
set_option maxHeartbeats 16000000 in
/-- one round of the fourth loop: both encode alike -/
theorem rnd7 (w14 wL : World) (b1 b2 b3 b7 b14 : Nat) (rP : Int) (rA : Option Addr) (rn rc : Nat) (l : List Rc) (g5 o5 c5 : Nat) (es : List En) (L : List (List Rc)) (m0 m1 m2 m3 u1 u2 : Int) (tx : ByteArray) (q : Nat) (a : Act) (wq : World) (Q : Exit → Act → World → Prop) (hz : a.tmps.size = 359) (hd : a.defers = []) (h3 : sl a 3 = .string tx) (h7 : sl a 7 = .pointer (some ⟨b7, 0, none⟩)) (h12 : sl a 12 = .slice (some ⟨g5, o5, none⟩) 4 c5) (h14 : sl a 14 = .pointer (some ⟨b14, 0, none⟩)) (h19 : sl a 19 = .pointer (some ⟨b1, 0, none⟩)) (h21 : sl a 21 = .pointer (some ⟨b2, 0, none⟩)) (h26 : sl a 26 = .int .i64 (q : Nat)) (hm : ok4 (m0, m1, m2, m3)) (hnc : rn ≤ rc) (hcc : rc ≤ 9223372036854775807) (hll : l.length = rn) (hc54 : 4 ≤ c5) (hc5' : c5 ≤ 9223372036854775807) (hle19 : w14.heap.size ≤ b1) (hb12 : b1 < b2) (hl20 : b2 < b3)
    (hqq : ∀ W, Below w14.heap.size w14 W → Bx W b14 rP rA rn rc l ∧ Fo W (some ⟨g5, o5, none⟩) c5 es L ∧ Blk W b7 26 [.int .i64 m0, .int .i64 m1, .int .i64 m2, .int .i64 m3] ∧ RL W ∧ Below wL.heap.size wL W) (hqn : q < rn) (hst : St w14 b1 b2 b3 39 [.int .i64 m1, .int .i64 m2, .int .i64 u1, .int .i64 (1 + u2)] wq)
    (hQ : ∀ (a' : Act) (W : World), Kp [4, 11, 13, 3, 7, 12, 14, 19, 21, 26] a a' → St w14 b1 b2 b3 39 [.int .i64 m1, .int .i64 m2, .int .i64 u1, .int .i64 (1 + u2)] W → Q .normal a' W) : (blk 7).wp Tryz.prog Q a wq := by
  conv => arg 2; whnf
  obtain ⟨u, rfl⟩ : ∃ u, a = frm u := ⟨sl a, act_frm hz hd⟩
  clear hz hd
  rw [sl_frm u 3 (by decide)] at h3
  rw [sl_frm u 7 (by decide)] at h7
  rw [sl_frm u 12 (by decide)] at h12
  rw [sl_frm u 14 (by decide)] at h14
  rw [sl_frm u 19 (by decide)] at h19
  rw [sl_frm u 21 (by decide)] at h21
  rw [sl_frm u 26 (by decide)] at h26
  have H3 := hide h3
  have H7 := hide h7
  have H12 := hide h12
  have H14 := hide h14
  have H19 := hide h19
  have H21 := hide h21
  have H26 := hide h26
  have HQ0 := hide hQ
  unfold frm
  rw [h3, h7, h12, h14, h19, h21, h26]
  clear hQ h3 h7 h12 h14 h19 h21 h26
  have HMk := hide hm
  have HQ := hide hqq
  have HLn := hide hll
  clear hm hqq hll
  have HST := hide hst
  have hHW : Hid (∀ W, Below wq.heap.size wq W → Bx W b14 rP rA rn rc l ∧ RL W ∧ St w14 b1 b2 b3 39 [.int .i64 m1, .int .i64 m2, .int .i64 u1, .int .i64 (1 + u2)] W) := hide (fun W h => ⟨(HQ.out W (HST.out.to h).bel).1, (HQ.out W (HST.out.to h).bel).2.2.2.1, HST.out.to h⟩)
  clear hst HST
  have hql : q < l.length := by rw [HLn.out]; exact hqn
  obtain ⟨bk, ok, rfl, hbk⟩ := (hHW.out wq (Below.refl _ _)).1.slr.some_of (by omega)
  have HCy : Hid (∀ W, Below wq.heap.size wq W → _) := hide (fun W hW => ((hHW.out W hW).1.slr.cellsR (Below.refl _ _) hql).2)
  generalize l[q]'hql = y at *
  obtain ⟨ts, hts⟩ : ∃ s, (encM y).getD ⟨#[]⟩ = s := ⟨_, rfl⟩
  obtain ⟨te, hte⟩ : ∃ e : Int, (if (encM y).isSome then 0 else 350) = e := ⟨_, rfl⟩
  have hEp : Hid (∀ W, RL W → Calls Tryz.prog 31 #[rcV y] W (fun e w' => Below W.heap.size W w' ∧ e = .returned (.tuple #[.string ts, .int .i64 te]))) := hide (fun W hW => by
    have := c_pEncode y W hW
    unfold EncPost at this
    rw [hts, hte] at this
    exact this)
  have hEr : Hid (∀ W, Calls Tryz.prog 32 #[rcV y] W (fun e w' => Below W.heap.size W w' ∧ e = .returned (.tuple #[.string ts, .int .i64 te]))) := hide (fun W => by
    have := c_rEncode y W
    unfold EncPost at this
    rw [hts, hte] at this
    exact this)
  clear hts hte
  obtain ⟨zp, zn, zt, zo, zw, zk, zx⟩ := y
  unfold rcV at hEp hEr
  dsimp only at HCy hEp hEr
  obtain ⟨x0, x1, x2⟩ := (hHW.out wq (Below.refl _ _)).1.cells
  obtain ⟨v0, v1, v2, v3, v4, v5, v6⟩ := HCy.out wq (Below.refl _ _)
  have hqn0 : (0 : Int) ≤ (q : Int) := by omega
  go_upto_region 41 with (go_at_call 31; refine (hEp.out wq (hHW.out wq (Below.refl _ _)).2.1).mono ?_; rintro e w4 ⟨hb4, rfl⟩; have HB4 := hide hb4; clear hb4 x0 x1 x2 v0 v1 v2 v3 v4 v5 v6)
  obtain ⟨x0, x1, x2⟩ := (hHW.out w4 HB4.out).1.cells
  obtain ⟨v0, v1, v2, v3, v4, v5, v6⟩ := HCy.out w4 HB4.out
  go_upto_region 42 with (go_at_call 32; refine (hEr.out w4).mono ?_; rintro e w5 ⟨hb5, rfl⟩; have HB5 := hide (bthen HB4.out hb5); clear hb5 x0 x1 x2 v0 v1 v2 v3 v4 v5 v6)
  go_wp2_with fail
  refine HQ0.out _ _ ?_ (hHW.out w5 HB5.out).2.2
  exact ⟨rfl, rfl, fun i hi => by
      simp only [List.mem_cons, List.not_mem_nil, or_false] at hi
      rcases hi with rfl | rfl | rfl | rfl | rfl | rfl | rfl | rfl | rfl | rfl <;> first | rfl | exact H3.out.symm | exact H7.out.symm | exact H12.out.symm | exact H14.out.symm | exact H19.out.symm | exact H21.out.symm | exact H26.out.symm⟩
set_option linter.unusedSimpArgs false in
set_option linter.unusedVariables false in
set_option maxRecDepth 100000 in
set_option maxHeartbeats 16000000 in
/-- the fourth loop -/
theorem lp6 (w14 wL : World) (b1 b2 b3 b7 b14 : Nat) (rP : Int) (rA : Option Addr) (rn rc : Nat) (l : List Rc) (g5 o5 c5 : Nat) (es : List En) (L : List (List Rc)) (m0 m1 m2 m3 u1 u2 : Int) (tx : ByteArray) (a : Act) (wq : World) (Q : Exit → Act → World → Prop) (hz : a.tmps.size = 359) (hd : a.defers = []) (h3 : sl a 3 = .string tx) (h7 : sl a 7 = .pointer (some ⟨b7, 0, none⟩)) (h12 : sl a 12 = .slice (some ⟨g5, o5, none⟩) 4 c5) (h14 : sl a 14 = .pointer (some ⟨b14, 0, none⟩)) (h19 : sl a 19 = .pointer (some ⟨b1, 0, none⟩)) (h21 : sl a 21 = .pointer (some ⟨b2, 0, none⟩)) (h26 : sl a 26 = .int .i64 (0 : Nat)) (hm : ok4 (m0, m1, m2, m3)) (hnc : rn ≤ rc) (hcc : rc ≤ 9223372036854775807) (hll : l.length = rn) (hc54 : 4 ≤ c5) (hc5' : c5 ≤ 9223372036854775807) (hle19 : w14.heap.size ≤ b1) (hb12 : b1 < b2) (hl20 : b2 < b3)
    (hqq : ∀ W, Below w14.heap.size w14 W → Bx W b14 rP rA rn rc l ∧ Fo W (some ⟨g5, o5, none⟩) c5 es L ∧ Blk W b7 26 [.int .i64 m0, .int .i64 m1, .int .i64 m2, .int .i64 m3] ∧ RL W ∧ Below wL.heap.size wL W) (hst : St w14 b1 b2 b3 39 [.int .i64 m1, .int .i64 m2, .int .i64 u1, .int .i64 (1 + u2)] wq)
    (hQ : ∀ (a' : Act) (W : World), Kp [4, 11, 13, 3, 7, 12, 14, 19, 21] a a' → St w14 b1 b2 b3 39 [.int .i64 m1, .int .i64 m2, .int .i64 u1, .int .i64 (1 + u2)] W → Q .normal a' W) : (blk 6).wp Tryz.prog Q a wq := by
  conv => arg 2; whnf
  rw [show Code.block 7 _ = blk 7 from rfl]
  have HMk := hide hm
  have HQ := hide hqq
  have HLn := hide hll
  clear hm hqq hll
  refine wp_block (wp_loop_ghost_k (fun n a' W => ∃ q : Nat, q + n = rn ∧ Kp [4, 11, 13, 3, 7, 12, 14, 19, 21] a a' ∧ sl a' 26 = .int .i64 q ∧ St w14 b1 b2 b3 39 [.int .i64 m1, .int .i64 m2, .int .i64 u1, .int .i64 (1 + u2)] W) rn ⟨0, by omega, Kp.refl hz hd, h26, hst⟩ ?_)
  rintro n a1 W ⟨q, hq, hK, hs, hst⟩ J K hJ hKK
  obtain ⟨u, rfl⟩ : ∃ u, a1 = frm u := ⟨sl a1, act_frm hK.1 hK.2.1⟩
  have e3 := (sl_frm u 3 (by decide)).symm.trans ((hK.2.2 3 (by decide)).trans h3)
  have e7 := (sl_frm u 7 (by decide)).symm.trans ((hK.2.2 7 (by decide)).trans h7)
  have e12 := (sl_frm u 12 (by decide)).symm.trans ((hK.2.2 12 (by decide)).trans h12)
  have e14 := (sl_frm u 14 (by decide)).symm.trans ((hK.2.2 14 (by decide)).trans h14)
  have e19 := (sl_frm u 19 (by decide)).symm.trans ((hK.2.2 19 (by decide)).trans h19)
  have e21 := (sl_frm u 21 (by decide)).symm.trans ((hK.2.2 21 (by decide)).trans h21)
  have e26 := (sl_frm u 26 (by decide)).symm.trans hs
  have HK := hide hK
  have HJ := hide hJ
  have HQ0 := hide hQ
  have HST := hide hst
  have H3 := hide e3
  have H7 := hide e7
  have H12 := hide e12
  have H14 := hide e14
  have H19 := hide e19
  have H21 := hide e21
  have H26 := hide e26
  clear hK hJ hQ hs hst h3 h7 h12 h14 h19 h21 h26
  unfold frm
  rw [e3, e7, e12, e14, e19, e21, e26]
  clear e3 e7 e12 e14 e19 e21 e26
  by_cases hlt : q < rn
  · have hlt' : (q : Int) < (rn : Int) := by omega
    obtain ⟨x0, x1, x2⟩ := (HQ.out W HST.out.bel).1.cells
    go_wp2_with fail
    rename_i K2 hK2
    refine rnd7 w14 wL b1 b2 b3 b7 b14 rP rA rn rc l g5 o5 c5 es L m0 m1 m2 m3 u1 u2 tx q _ W _ (by rfl) (by rfl) (by rfl) (by rfl) (by rfl) (by rfl) (by rfl) (by rfl) (by rfl) HMk.out hnc hcc HLn.out hc54 hc5' hle19 hb12 hl20 HQ.out hlt HST.out ?_
    intro a2 W2 hK' hst2
    have HS2 := hide hst2
    have h1 : Kp [4, 11, 13, 3, 7, 12, 14, 19, 21] a a2 := (HK.out.trans (by exact ⟨rfl, rfl, fun i hi => by
    simp only [List.mem_cons, List.not_mem_nil, or_false] at hi
    rcases hi with rfl | rfl | rfl | rfl | rfl | rfl | rfl | rfl | rfl <;> first | rfl | exact H3.out.symm | exact H7.out.symm | exact H12.out.symm | exact H14.out.symm | exact H19.out.symm | exact H21.out.symm⟩ : Kp [4, 11, 13, 3, 7, 12, 14, 19, 21] (frm u) _)).trans (hK'.sub (by rfl))
    have hs' : sl a2 26 = .int .i64 q := (hK'.2.2 26 (by decide)).trans rfl
    clear hK' hst2
    refine hK2 _ _ ?_
    obtain ⟨u2, rfl⟩ : ∃ u2, a2 = frm u2 := ⟨sl a2, act_frm h1.1 h1.2.1⟩
    have e := (sl_frm u2 26 (by decide)).symm.trans hs'
    have HE2 := hide e
    have H1 := hide h1
    clear hs' h1 hK2
    unfold frm
    rw [e]
    clear e
    go_wp2_with fail
    refine Handed.intro (n - 1) (by omega) (HJ.out _ _ _ ⟨q + 1, by omega, H1.out.trans ?_, ?_, HS2.out⟩)
    · exact ⟨rfl, rfl, fun i hi => by
    simp only [List.mem_cons, List.not_mem_nil, or_false] at hi
    rcases hi with rfl | rfl | rfl | rfl | rfl | rfl | rfl | rfl | rfl <;> first | rfl | exact HE2.out.symm⟩
    · first | rfl | (show Value.int .i64 _ = Value.int .i64 _; congr 1; omega)
  · obtain rfl : rn = q := by omega
    obtain ⟨x0, x1, x2⟩ := (HQ.out W HST.out.bel).1.cells
    go_wp2_with fail
    refine HQ0.out _ _ (HK.out.trans ?_) HST.out
    exact ⟨rfl, rfl, fun i hi => by
    simp only [List.mem_cons, List.not_mem_nil, or_false] at hi
    rcases hi with rfl | rfl | rfl | rfl | rfl | rfl | rfl | rfl | rfl <;> first | rfl | exact H3.out.symm | exact H7.out.symm | exact H12.out.symm | exact H14.out.symm | exact H19.out.symm | exact H21.out.symm⟩
end Go.Proofs.YtcfbgelhggapjaaGreatDoor
/- The law against the reference: loop 2. -/
namespace Go.Proofs.YtcfbgelhggapjaaGreatDoor
open Go.RowKit Go.Shelf
set_option linter.unusedSimpArgs false in
set_option linter.unusedVariables false in
set_option maxRecDepth 100000 in
set_option maxHeartbeats 16000000 in
/-- one round of the second loop: Correct and History -/
theorem rnd3 (w14 wL : World) (b1 b2 b3 b7 b14 : Nat) (rP : Int) (rA : Option Addr) (rn rc : Nat) (l : List Rc) (g5 o5 c5 : Nat) (es : List En) (L : List (List Rc)) (m0 m1 m2 m3 u1 u2 : Int) (tx : ByteArray) (q : Nat) (a : Act) (wq : World) (Q : Exit → Act → World → Prop) (hz : a.tmps.size = 359) (hd : a.defers = []) (h3 : sl a 3 = .string tx) (h7 : sl a 7 = .pointer (some ⟨b7, 0, none⟩)) (h12 : sl a 12 = .slice (some ⟨g5, o5, none⟩) 4 c5) (h14 : sl a 14 = .pointer (some ⟨b14, 0, none⟩)) (h19 : sl a 19 = .pointer (some ⟨b1, 0, none⟩)) (h21 : sl a 21 = .pointer (some ⟨b2, 0, none⟩)) (h127 : sl a 127 = .slice (some ⟨b3, 0, none⟩) 2 2) (h128 : sl a 128 = .int .i64 2) (h129 : sl a 129 = .int .i64 (q : Nat)) (hm : ok4 (m0, m1, m2, m3)) (hnc : rn ≤ rc) (hcc : rc ≤ 9223372036854775807) (hll : l.length = rn) (hc54 : 4 ≤ c5) (hc5' : c5 ≤ 9223372036854775807) (hle19 : w14.heap.size ≤ b1) (hb12 : b1 < b2) (hl20 : b2 < b3)
    (hqq : ∀ W, Below w14.heap.size w14 W → Bx W b14 rP rA rn rc l ∧ Fo W (some ⟨g5, o5, none⟩) c5 es L ∧ Blk W b7 26 [.int .i64 m0, .int .i64 m1, .int .i64 m2, .int .i64 m3] ∧ RL W ∧ Below wL.heap.size wL W) (hq2 : q < 2) (hst : St w14 b1 b2 b3 39 [.int .i64 m1, .int .i64 m2, .int .i64 u1, .int .i64 (1 + u2)] wq)
    (hQ : ∀ (a' : Act) (W : World), Kp [4, 11, 13, 3, 7, 12, 14, 19, 21, 127, 128, 129] a a' → St w14 b1 b2 b3 39 [.int .i64 m1, .int .i64 m2, .int .i64 u1, .int .i64 (1 + u2)] W → Q .normal a' W) : (blk 3).wp Tryz.prog Q a wq := by
  conv => arg 2; whnf
  obtain ⟨u, rfl⟩ : ∃ u, a = frm u := ⟨sl a, act_frm hz hd⟩
  clear hz hd
  rw [sl_frm u 3 (by decide)] at h3
  rw [sl_frm u 7 (by decide)] at h7
  rw [sl_frm u 12 (by decide)] at h12
  rw [sl_frm u 14 (by decide)] at h14
  rw [sl_frm u 19 (by decide)] at h19
  rw [sl_frm u 21 (by decide)] at h21
  rw [sl_frm u 127 (by decide)] at h127
  rw [sl_frm u 128 (by decide)] at h128
  rw [sl_frm u 129 (by decide)] at h129
  have H3 := hide h3
  have H7 := hide h7
  have H12 := hide h12
  have H14 := hide h14
  have H19 := hide h19
  have H21 := hide h21
  have H127 := hide h127
  have H128 := hide h128
  have H129 := hide h129
  have HQ0 := hide hQ
  unfold frm
  rw [h3, h7, h12, h14, h19, h21, h127, h128, h129]
  clear hQ h3 h7 h12 h14 h19 h21 h127 h128 h129
  have HMk := hide hm
  have HQ := hide hqq
  have HLn := hide hll
  clear hm hqq hll
  have hl22q := hst.x3.lt
  have hb24' : b2 < wq.heap.size := Nat.lt_trans hl20 hl22q
  have HST := hide hst
  have hqi : (q : Int) < 2 := by omega
  obtain ⟨ka, kb, hk1, hk2⟩ : ∃ ka kb : Int, wq.cell? ⟨b3, q * 2, none⟩ = some (.int .i64 ka) ∧ wq.cell? ⟨b3, q * 2 + 1, none⟩ = some (.int .i64 kb) := by
    obtain ⟨y0, y1, y2, y3⟩ := blk4 hst.x3
    rcases (show q = 0 ∨ q = 1 by omega) with rfl | rfl
    · exact ⟨_, _, y0, y1⟩
    · exact ⟨_, _, y2, y3⟩
  clear hst
  go_upto_region 21 with (fail)
  have g24 := Blk.new wq 39 [.int .i64 ka, .int .i64 kb]
  have hb24 := balloc (Below.refl wq.heap.size wq) (.cells #[.int .i64 ka, .int .i64 kb] 39)
  generalize wq.alloc (.cells #[.int .i64 ka, .int .i64 kb] 39) = w24 at *
  have HS24 := hide (HST.out.to hb24)
  have H24 := hide g24
  clear g24 hb24 hk1 hk2
  obtain ⟨KK, HK, HK0, HKx⟩ : ∃ KK : World → Prop, Hid (KW w14 b1 b2 KK) ∧ Hid (KK w24) ∧ Hid (∀ W, KK W → Blk W wq.heap.size 39 [.int .i64 ka, .int .i64 kb] ∧ St w14 b1 b2 b3 39 [.int .i64 m1, .int .i64 m2, .int .i64 u1, .int .i64 (1 + u2)] W) := ⟨_, hide (S2.kw 39 [.int .i64 m1, .int .i64 m2, .int .i64 u1, .int .i64 (1 + u2)] 39 [.int .i64 ka, .int .i64 kb] hle19 hb12 hl20 hb24'), hide ⟨HS24.out, H24.out⟩, hide (fun W h => ⟨h.x4, h.st⟩)⟩
  clear HS24 H24 HST
  have hu3 := pk_range m3 16 (by omega)
  have hp16 : ∀ W : World, Calls Tryz.prog 21 #[.int .i64 m3, .int .i64 16] W fun e w' => e = .returned (.int .i64 (pk m3 16)) ∧ W = w' := fun W => c_lpick m3 16 W HMk.out.2.2.2.1 HMk.out.2.2.2.2 (by omega) (by omega)
  generalize pk m3 16 = u3 at *
  obtain ⟨o3, ho3⟩ : ∃ o, corM rP l ⟨0, 0, m0, ka, kb, u3, tx⟩ = o := ⟨_, rfl⟩
  obtain ⟨n3, hn3⟩ : ∃ n, (oL o3).length = n := ⟨_, rfl⟩
  obtain ⟨e3, he3⟩ : ∃ e, oE o3 = e := ⟨_, rfl⟩
  obtain ⟨p3, hp3⟩ : ∃ e, oP rP o3 = e := ⟨_, rfl⟩
  have HN3 := hide (And.intro ho3 (And.intro hn3 (And.intro he3 hp3)))
  clear ho3 hn3 he3 hp3
  obtain ⟨o5, ho5⟩ : ∃ o, (if vrB rP l then histL l (ka, kb) else none) = o := ⟨_, rfl⟩
  obtain ⟨n5, hn5⟩ : ∃ n, (oL o5).length = n := ⟨_, rfl⟩
  obtain ⟨e5, he5⟩ : ∃ e, oE o5 = e := ⟨_, rfl⟩
  have HN5 := hide (And.intro ho5 (And.intro hn5 he5))
  clear ho5 hn5 he5
  have HS : Hid (∀ W, KK W → W.cell? ⟨b14, 0, none⟩ = some (.int .i64 rP) ∧ W.cell? ⟨b14, 1, none⟩ = some (.slice rA rn rc) ∧ W.cell? ⟨b7, 0, none⟩ = some (.int .i64 m0) ∧ W.cell? ⟨b7, 3, none⟩ = some (.int .i64 m3) ∧ W.cell? ⟨wq.heap.size, 0, none⟩ = some (.int .i64 ka) ∧ W.cell? ⟨wq.heap.size, 1, none⟩ = some (.int .i64 kb) ∧ KK W) := hide (fun W h => by
    have hb := HK.out.bel h
    obtain ⟨x0, x1, -⟩ := (HQ.out W hb).1.cells
    obtain ⟨y0, -, -, y3⟩ := blk4 (HQ.out W hb).2.2.1
    obtain ⟨z0, z1, -⟩ := (HKx.out W h).1.all2
    exact ⟨x0, x1, y0, y3, z0, z1, h⟩)
  have HGv : Hid (∀ W, KK W → Calls Tryz.prog 22 #[.agg #[.int .i64 rP, .slice rA rn rc], .int .i64 m0, .int .i64 ka, .int .i64 kb, .int .i64 u3, .string tx] W (RepPost rP o3 W)) := hide (fun W h => by
    have hb := HK.out.bel h
    rw [← HN3.out.1]
    exact c_pCorrect rP m0 ka kb u3 tx rA rn rc l W (HQ.out W hb).2.2.2.1 hnc hcc (HQ.out W hb).1.slr)
  go_upto_region 21 with (fail)
  go_cut [20] from 133 to 147 (fun u wx => u = .int .i64 e3 ∧ ∃ A c, Hid (Bx wx b1 p3 A n3 c (oL o3)) ∧ Hid (KK wx))
  case first =>
    go_region_held3 (fun W => W.cell? ⟨b14, 0, none⟩ = some (.int .i64 rP) ∧ W.cell? ⟨b14, 1, none⟩ = some (.slice rA rn rc) ∧ W.cell? ⟨b7, 0, none⟩ = some (.int .i64 m0) ∧ W.cell? ⟨b7, 3, none⟩ = some (.int .i64 m3) ∧ W.cell? ⟨wq.heap.size, 0, none⟩ = some (.int .i64 ka) ∧ W.cell? ⟨wq.heap.size, 1, none⟩ = some (.int .i64 kb) ∧ KK W)
      (first | exact HS.out _ HK0.out | exact HS.out _ (HK.out.drew HK0.out) | exact HS.out _ h8 | exact HS.out _ (HK.out.s1 h8 _ _) | (go_split_ands; first | exact HS.out _ (by assumption) | exact HS.out _ (HK.out.next (by assumption) (by assumption))))
      ((first | (go_at_call 21; with_reducible refine (hp16 _).mono ?_; rintro e w' ⟨rfl, rfl⟩) | (go_split_ands; go_at_call 22; refine (HGv.out _ (by assumption)).mono ?_; rintro e w8 hp; obtain ⟨hb8, A8, c8, rfl, hk1, hk2, hsn⟩ := RepPost.un HN3.out.2 hp; clear hp; have h8 : KK w8 := HK.out.next (by assumption) hb8; obtain ⟨xx, yy, gB⟩ := HK.out.x1 h8; obtain ⟨q0, q1, q2, q3⟩ := gB.all2; have q4 := gB.lt)))
    all_goals
      go_wp2_with fail
      go_meet
      exact ⟨rfl, A8, c8, hide (hsn.put gB hk1 hk2), hide (HK.out.s1 h8 _ _)⟩
  case rest =>
    obtain ⟨wB, rfl⟩ : ∃ wB, wB = wc := ⟨_, rfl⟩
    obtain ⟨rfl, A3, c3, hB3, hK3⟩ := hcut
    obtain ⟨K3, HK3, HK30⟩ : ∃ K3 : World → Prop, Hid (KW2 w14 b1 b2 p3 A3 n3 c3 (oL o3) KK K3) ∧ Hid (K3 wB) := ⟨_, hide (KW.two HK.out hb12 p3 A3 n3 c3 (oL o3)), hide ⟨hK3.out, hB3.out⟩⟩
    clear hB3 hK3 HS HGv HK0
    have HS : Hid (∀ W, K3 W → W.cell? ⟨b14, 0, none⟩ = some (.int .i64 rP) ∧ W.cell? ⟨b14, 1, none⟩ = some (.slice rA rn rc) ∧ W.cell? ⟨b7, 0, none⟩ = some (.int .i64 m0) ∧ W.cell? ⟨b7, 3, none⟩ = some (.int .i64 m3) ∧ W.cell? ⟨wq.heap.size, 0, none⟩ = some (.int .i64 ka) ∧ W.cell? ⟨wq.heap.size, 1, none⟩ = some (.int .i64 kb) ∧ K3 W) := hide (fun W h => by
      have hb := HK3.out.bel h
      have h0 := h
      have h := HK3.out.k h
      obtain ⟨x0, x1, -⟩ := (HQ.out W hb).1.cells
      obtain ⟨y0, -, -, y3⟩ := blk4 (HQ.out W hb).2.2.1
      obtain ⟨z0, z1, -⟩ := (HKx.out W h).1.all2
      exact ⟨x0, x1, y0, y3, z0, z1, h0⟩)
    have HGv : Hid (∀ W, K3 W → Calls Tryz.prog 23 #[.agg #[.int .i64 rP, .slice rA rn rc], .int .i64 m0, .int .i64 ka, .int .i64 kb, .int .i64 u3, .string tx] W (RepPost rP o3 W)) := hide (fun W h => by
      have hb := HK3.out.bel h
      have h := HK3.out.k h
      rw [← HN3.out.1]
      exact c_rCorrect rP m0 ka kb u3 tx rA rn rc l W hnc hcc (HQ.out W hb).1.slr)
    go_upto_region 22 with (fail)
    go_cut [22] from 148 to 162 (fun u wx => u = .int .i64 e3 ∧ ∃ A c, Hid (Bx wx b2 p3 A n3 c (oL o3)) ∧ Hid (K3 wx))
    case first =>
      go_region_held3 (fun W => W.cell? ⟨b14, 0, none⟩ = some (.int .i64 rP) ∧ W.cell? ⟨b14, 1, none⟩ = some (.slice rA rn rc) ∧ W.cell? ⟨b7, 0, none⟩ = some (.int .i64 m0) ∧ W.cell? ⟨b7, 3, none⟩ = some (.int .i64 m3) ∧ W.cell? ⟨wq.heap.size, 0, none⟩ = some (.int .i64 ka) ∧ W.cell? ⟨wq.heap.size, 1, none⟩ = some (.int .i64 kb) ∧ K3 W)
        (first | exact HS.out _ HK30.out | exact HS.out _ (HK3.out.drew HK30.out) | exact HS.out _ h8 | exact HS.out _ (HK3.out.s2 h8 _ _) | (go_split_ands; first | exact HS.out _ (by assumption) | exact HS.out _ (HK3.out.next (by assumption) (by assumption))))
        ((first | (go_at_call 21; with_reducible refine (hp16 _).mono ?_; rintro e w' ⟨rfl, rfl⟩) | (go_split_ands; go_at_call 23; refine (HGv.out _ (by assumption)).mono ?_; rintro e w8 hp; obtain ⟨hb8, A8, c8, rfl, hk1, hk2, hsn⟩ := RepPost.un HN3.out.2 hp; clear hp; have h8 : K3 w8 := HK3.out.next (by assumption) hb8; obtain ⟨xx, yy, gB⟩ := HK3.out.x2 h8; obtain ⟨q0, q1, q2, q3⟩ := gB.all2; have q4 := gB.lt)))
      all_goals
        go_wp2_with fail
        go_meet
        exact ⟨rfl, A8, c8, hide (hsn.put gB hk1 hk2), hide (HK3.out.s2 h8 _ _)⟩
    case rest =>
      obtain ⟨wC, rfl⟩ : ∃ wC, wC = wc := ⟨_, rfl⟩
      obtain ⟨rfl, A4, c4, hB4, hK4⟩ := hcut
      clear HS HGv HK30
      have HGp : Hid (∀ W, Below wC.heap.size wC W → Calls Tryz.prog 24 #[.agg #[.int .i64 rP, .slice rA rn rc], .int .i64 ka, .int .i64 kb] W (BehPost o5 W)) := hide (fun W h0 => by
        have hb := HK.out.bel (HK3.out.k (HK3.out.next hK4.out h0))
        rw [← HN5.out.1]
        exact c_pHistory rP rA rn rc l ka kb W (HQ.out W hb).2.2.2.1 (by omega) (HQ.out W hb).1.slr)
      have HGr : Hid (∀ W, Below wC.heap.size wC W → Calls Tryz.prog 25 #[.agg #[.int .i64 rP, .slice rA rn rc], .int .i64 ka, .int .i64 kb] W (BehPost o5 W)) := hide (fun W h0 => by
        have hb := HK.out.bel (HK3.out.k (HK3.out.next hK4.out h0))
        rw [← HN5.out.1]
        exact c_rHistory rP rA rn rc l ka kb W (by omega) (HQ.out W hb).1.slr)
      have HS : Hid (∀ W, Below wC.heap.size wC W → W.cell? ⟨b14, 0, none⟩ = some (.int .i64 rP) ∧ W.cell? ⟨b14, 1, none⟩ = some (.slice rA rn rc) ∧ W.cell? ⟨wq.heap.size, 0, none⟩ = some (.int .i64 ka) ∧ W.cell? ⟨wq.heap.size, 1, none⟩ = some (.int .i64 kb)) := hide (fun W h0 => by
        have h := HK3.out.k (HK3.out.next hK4.out h0)
        have hb := HK.out.bel h
        obtain ⟨x0, x1, -⟩ := (HQ.out W hb).1.cells
        obtain ⟨z0, z1, -⟩ := (HKx.out W h).1.all2
        exact ⟨x0, x1, z0, z1⟩)
      obtain ⟨x0, x1, z0, z1⟩ := HS.out wC (Below.refl _ _)
      go_upto_region 24 with (go_at_call 24; refine (HGp.out wC (Below.refl _ _)).mono ?_; rintro e wD hp; obtain ⟨hb, A5, c5, rfl, h51, h52, hsn⟩ := BehPost.un HN5.out.2 hp; clear hp x0 x1 z0 z1; have hbD := hide hb; have h5 := hide hsn.1; clear hb hsn; obtain ⟨x0, x1, z0, z1⟩ := HS.out wD hbD.out)
      go_upto_region 25 with (go_at_call 25; refine (HGr.out wD hbD.out).mono ?_; rintro e wE hp; obtain ⟨hb, A6, c6, rfl, h61, h62, hsn⟩ := BehPost.un HN5.out.2 hp; clear hp x0 x1 z0 z1; have hbE := hide hb; have h6 := hide hsn.1; clear hb hsn)
      have HE : Hid (∀ W, Below wE.heap.size wE W → SlR W W.heap.size 7 A5 n5 ((oL o5).flatMap cR) ∧ SlR W W.heap.size 7 A6 n5 ((oL o5).flatMap cR) ∧ K3 W ∧ Bx W b2 p3 A4 n3 c4 (oL o3)) := hide (fun W h => ⟨h5.out.to' (bthen hbE.out h), h6.out.to' h, HK3.out.next hK4.out (bthen hbD.out (bthen hbE.out h)), hB4.out.to (bthen hbD.out (bthen hbE.out h))⟩)
      clear HS HGp HGr h5 h6 hbD hbE hB4 hK4
      have hs1 : Hid (∀ W, Below wE.heap.size wE W → Calls Tryz.prog 20 #[.agg #[.int .i64 p3, .slice A3 n3 c3], .agg #[.int .i64 p3, .slice A4 n3 c4]] W fun e w' => e = .returned (.bool true) ∧ Below W.heap.size W w') := hide (fun W h => by
        have g := (HK3.out.bx (HE.out W h).2.2.1)
        have g2 := (HE.out W h).2.2.2
        have := c_rSame p3 A3 n3 c3 (oL o3) p3 A4 n3 c4 (oL o3) W (by have := g.hnc; have := g.hc; omega) (by have := g.hnc; have := g.hc; omega) g.slr g2.slr
        rw [decide_eq_true rfl, decide_eq_true rfl] at this
        exact this)
      have hs2 : Hid (∀ W, Below wE.heap.size wE W → Calls Tryz.prog 15 #[.slice A5 n5 c5, .slice A6 n5 c6] W fun e w' => e = .returned (.bool true) ∧ Below W.heap.size W w') := hide (fun W h => by
        have := c_rSameRecords A5 n5 c5 (oL o5) A6 n5 c6 (oL o5) W (by omega) (by omega) (HE.out W h).1 (HE.out W h).2.1
        rw [decide_eq_true rfl] at this
        exact this)
      obtain ⟨x0, x1, x2⟩ := (HK3.out.bx (HE.out wE (Below.refl _ _)).2.2.1).cells
      obtain ⟨y0, y1, y2⟩ := (HE.out wE (Below.refl _ _)).2.2.2.cells
      go_wp2_with (first | (go_at_call 20; refine (hs1.out wE (Below.refl _ _)).mono ?_; clear hs1 x0 x1 x2 y0 y1 y2; rintro e w9 ⟨rfl, hb9⟩; have HB9 := hide hb9; clear hb9) | (go_at_call 15; refine (hs2.out w9 HB9.out).mono ?_; clear hs2; rintro e w10 ⟨rfl, hb10⟩; have HB10 := hide (bthen HB9.out hb10); clear hb10))
      refine HQ0.out _ _ ?_ (HKx.out _ (HK3.out.k (HE.out _ HB10.out).2.2.1)).2
      exact ⟨rfl, rfl, fun i hi => by
          simp only [List.mem_cons, List.not_mem_nil, or_false] at hi
          rcases hi with rfl | rfl | rfl | rfl | rfl | rfl | rfl | rfl | rfl | rfl | rfl | rfl <;> first | rfl | exact H3.out.symm | exact H7.out.symm | exact H12.out.symm | exact H14.out.symm | exact H19.out.symm | exact H21.out.symm | exact H127.out.symm | exact H128.out.symm | exact H129.out.symm⟩
set_option linter.unusedSimpArgs false in
set_option linter.unusedVariables false in
set_option maxRecDepth 100000 in
set_option maxHeartbeats 16000000 in
/-- the second loop -/
theorem lp2 (w14 wL : World) (b1 b2 b3 b7 b14 : Nat) (rP : Int) (rA : Option Addr) (rn rc : Nat) (l : List Rc) (g5 o5 c5 : Nat) (es : List En) (L : List (List Rc)) (m0 m1 m2 m3 u1 u2 : Int) (tx : ByteArray) (a : Act) (wq : World) (Q : Exit → Act → World → Prop) (hz : a.tmps.size = 359) (hd : a.defers = []) (h3 : sl a 3 = .string tx) (h7 : sl a 7 = .pointer (some ⟨b7, 0, none⟩)) (h12 : sl a 12 = .slice (some ⟨g5, o5, none⟩) 4 c5) (h14 : sl a 14 = .pointer (some ⟨b14, 0, none⟩)) (h19 : sl a 19 = .pointer (some ⟨b1, 0, none⟩)) (h21 : sl a 21 = .pointer (some ⟨b2, 0, none⟩)) (h127 : sl a 127 = .slice (some ⟨b3, 0, none⟩) 2 2) (h128 : sl a 128 = .int .i64 2) (h129 : sl a 129 = .int .i64 (0 : Nat)) (hm : ok4 (m0, m1, m2, m3)) (hnc : rn ≤ rc) (hcc : rc ≤ 9223372036854775807) (hll : l.length = rn) (hc54 : 4 ≤ c5) (hc5' : c5 ≤ 9223372036854775807) (hle19 : w14.heap.size ≤ b1) (hb12 : b1 < b2) (hl20 : b2 < b3)
    (hqq : ∀ W, Below w14.heap.size w14 W → Bx W b14 rP rA rn rc l ∧ Fo W (some ⟨g5, o5, none⟩) c5 es L ∧ Blk W b7 26 [.int .i64 m0, .int .i64 m1, .int .i64 m2, .int .i64 m3] ∧ RL W ∧ Below wL.heap.size wL W) (hst : St w14 b1 b2 b3 39 [.int .i64 m1, .int .i64 m2, .int .i64 u1, .int .i64 (1 + u2)] wq)
    (hQ : ∀ (a' : Act) (W : World), Kp [4, 11, 13, 3, 7, 12, 14, 19, 21, 127, 128] a a' → St w14 b1 b2 b3 39 [.int .i64 m1, .int .i64 m2, .int .i64 u1, .int .i64 (1 + u2)] W → Q .normal a' W) : (blk 2).wp Tryz.prog Q a wq := by
  conv => arg 2; whnf
  rw [show Code.block 3 _ = blk 3 from rfl]
  have HMk := hide hm
  have HQ := hide hqq
  have HLn := hide hll
  clear hm hqq hll
  refine wp_block (wp_loop_ghost_k (fun n a' W => ∃ q : Nat, q + n = 2 ∧ Kp [4, 11, 13, 3, 7, 12, 14, 19, 21, 127, 128] a a' ∧ sl a' 129 = .int .i64 q ∧ St w14 b1 b2 b3 39 [.int .i64 m1, .int .i64 m2, .int .i64 u1, .int .i64 (1 + u2)] W) 2 ⟨0, by omega, Kp.refl hz hd, h129, hst⟩ ?_)
  rintro n a1 W ⟨q, hq, hK, hs, hst⟩ J K hJ hKK
  obtain ⟨u, rfl⟩ : ∃ u, a1 = frm u := ⟨sl a1, act_frm hK.1 hK.2.1⟩
  have e3 := (sl_frm u 3 (by decide)).symm.trans ((hK.2.2 3 (by decide)).trans h3)
  have e7 := (sl_frm u 7 (by decide)).symm.trans ((hK.2.2 7 (by decide)).trans h7)
  have e12 := (sl_frm u 12 (by decide)).symm.trans ((hK.2.2 12 (by decide)).trans h12)
  have e14 := (sl_frm u 14 (by decide)).symm.trans ((hK.2.2 14 (by decide)).trans h14)
  have e19 := (sl_frm u 19 (by decide)).symm.trans ((hK.2.2 19 (by decide)).trans h19)
  have e21 := (sl_frm u 21 (by decide)).symm.trans ((hK.2.2 21 (by decide)).trans h21)
  have e127 := (sl_frm u 127 (by decide)).symm.trans ((hK.2.2 127 (by decide)).trans h127)
  have e128 := (sl_frm u 128 (by decide)).symm.trans ((hK.2.2 128 (by decide)).trans h128)
  have e129 := (sl_frm u 129 (by decide)).symm.trans hs
  have HK := hide hK
  have HJ := hide hJ
  have HQ0 := hide hQ
  have HST := hide hst
  have H3 := hide e3
  have H7 := hide e7
  have H12 := hide e12
  have H14 := hide e14
  have H19 := hide e19
  have H21 := hide e21
  have H127 := hide e127
  have H128 := hide e128
  have H129 := hide e129
  clear hK hJ hQ hs hst h3 h7 h12 h14 h19 h21 h127 h128 h129
  unfold frm
  rw [e3, e7, e12, e14, e19, e21, e127, e128, e129]
  clear e3 e7 e12 e14 e19 e21 e127 e128 e129
  by_cases hlt : q < 2
  · have hlt' : (q : Int) < 2 := by omega
    go_wp2_with fail
    rename_i K2 hK2
    refine rnd3 w14 wL b1 b2 b3 b7 b14 rP rA rn rc l g5 o5 c5 es L m0 m1 m2 m3 u1 u2 tx q _ W _ (by rfl) (by rfl) (by rfl) (by rfl) (by rfl) (by rfl) (by rfl) (by rfl) (by rfl) (by rfl) (by rfl) HMk.out hnc hcc HLn.out hc54 hc5' hle19 hb12 hl20 HQ.out hlt HST.out ?_
    intro a2 W2 hK' hst2
    have HS2 := hide hst2
    have h1 : Kp [4, 11, 13, 3, 7, 12, 14, 19, 21, 127, 128] a a2 := (HK.out.trans (by exact ⟨rfl, rfl, fun i hi => by
    simp only [List.mem_cons, List.not_mem_nil, or_false] at hi
    rcases hi with rfl | rfl | rfl | rfl | rfl | rfl | rfl | rfl | rfl | rfl | rfl <;> first | rfl | exact H3.out.symm | exact H7.out.symm | exact H12.out.symm | exact H14.out.symm | exact H19.out.symm | exact H21.out.symm | exact H127.out.symm | exact H128.out.symm⟩ : Kp [4, 11, 13, 3, 7, 12, 14, 19, 21, 127, 128] (frm u) _)).trans (hK'.sub (by rfl))
    have hs' : sl a2 129 = .int .i64 q := (hK'.2.2 129 (by decide)).trans rfl
    clear hK' hst2
    refine hK2 _ _ ?_
    obtain ⟨u2, rfl⟩ : ∃ u2, a2 = frm u2 := ⟨sl a2, act_frm h1.1 h1.2.1⟩
    have e := (sl_frm u2 129 (by decide)).symm.trans hs'
    have HE2 := hide e
    have H1 := hide h1
    clear hs' h1 hK2
    unfold frm
    rw [e]
    clear e
    go_wp2_with fail
    refine Handed.intro (n - 1) (by omega) (HJ.out _ _ _ ⟨q + 1, by omega, H1.out.trans ?_, ?_, HS2.out⟩)
    · exact ⟨rfl, rfl, fun i hi => by
    simp only [List.mem_cons, List.not_mem_nil, or_false] at hi
    rcases hi with rfl | rfl | rfl | rfl | rfl | rfl | rfl | rfl | rfl | rfl | rfl <;> first | rfl | exact HE2.out.symm⟩
    · first | rfl | (show Value.int .i64 _ = Value.int .i64 _; congr 1; omega)
  · obtain rfl : 2 = q := by omega
    go_wp2_with fail
    refine HQ0.out _ _ (HK.out.trans ?_) HST.out
    exact ⟨rfl, rfl, fun i hi => by
    simp only [List.mem_cons, List.not_mem_nil, or_false] at hi
    rcases hi with rfl | rfl | rfl | rfl | rfl | rfl | rfl | rfl | rfl | rfl | rfl <;> first | rfl | exact H3.out.symm | exact H7.out.symm | exact H12.out.symm | exact H14.out.symm | exact H19.out.symm | exact H21.out.symm | exact H127.out.symm | exact H128.out.symm⟩
end Go.Proofs.YtcfbgelhggapjaaGreatDoor
