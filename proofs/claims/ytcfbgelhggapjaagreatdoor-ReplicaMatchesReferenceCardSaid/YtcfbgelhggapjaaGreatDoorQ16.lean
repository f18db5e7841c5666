/- Replica: Encode, of the package and of the reference. -/
import Derived.Test.YtcfbgelhggapjaaGreatDoorQ15
import Derived.Test.YtcfbgelhggapjaaGreatDoorQ8
import Derived.Test.YtcfbgelhggapjaaGreatDoorQ14
namespace Go.Proofs.YtcfbgelhggapjaaGreatDoor
open Go.RowKit Go.Shelf
def nsR (r : Rc) : List Int := [r.pen, r.num, r.at_, r.of + 1, r.which, r.kind]
/-- what has been written of a record -/
def outE (r : Rc) (i : Nat) : ByteArray := ((nsR r).take i).foldl (fun s n => s ++ encI n) ⟨#[]⟩
theorem fold_size : ∀ (l : List Int) (s : ByteArray), (∀ n ∈ l, (encI n).size ≤ 9) → (l.foldl (fun s n => s ++ encI n) s).size ≤ s.size + 9 * l.length
  | [], s, _ => by simp
  | x :: l, s, h => by
    have h1 := fold_size l (s ++ encI x) (fun n hn => h n (.tail _ hn))
    have h2 := h x (.head _)
    rw [ByteArray.size_append] at h1
    rw [List.foldl_cons, List.length_cons]
    omega
theorem outE_size (r : Rc) (h : ∀ n ∈ nsR r, (encI n).size ≤ 9) (i : Nat) : (outE r i).size ≤ 1000 := by
  have h1 := fold_size ((nsR r).take i) ⟨#[]⟩ (fun n hn => h n (List.mem_of_mem_take hn))
  have h2 : ((nsR r).take i).length ≤ 6 := by rw [List.length_take]; have : (nsR r).length = 6 := rfl; omega
  have h3 : (⟨#[]⟩ : ByteArray).size = 0 := rfl
  unfold outE
  omega
theorem nsR_in {r : Rc} {n : Int} (h : n ∈ nsR r) (h1 : 0 ≤ r.pen) (h2 : r.pen ≤ 39) (h3 : 0 ≤ r.at_) (h4 : r.at_ ≤ 1000000) (h5 : 1 ≤ r.num) (h6 : r.num ≤ 150) (h7 : 0 ≤ r.kind) (h8 : r.kind ≤ 15) (k1 : -1 ≤ r.of) (k2 : r.of ≤ 39) (k3 : 0 ≤ r.which) (k4 : r.which ≤ 150) : -1000000 ≤ n ∧ n ≤ 10000000 := by
  simp only [nsR, List.mem_cons, List.not_mem_nil, or_false] at h
  omega
/-- the answer of Encode -/
def EncPost (r : Rc) (w : World) (e : Ending) (w' : World) : Prop :=
  Below w.heap.size w w' ∧ e = .returned (.tuple #[.string ((encM r).getD ⟨#[]⟩), .int .i64 (if (encM r).isSome then 0 else 350)])
set_option linter.unusedSimpArgs false in
set_option maxRecDepth 100000 in
set_option maxHeartbeats 8000000 in
theorem c_pEncode (r : Rc) (w : World) (hrl : RL w) : Calls Tryz.prog 31 #[rcV r] w (EncPost r w) := by
  have hb0 := balloc (Below.refl w.heap.size w) (.cells (cR r).toArray 49)
  have gR := Blk.new w 49 (cR r)
  have hF := c_pformed r _ (hrl.to' hb0)
  have HRf := hide (show outE r 0 = ⟨#[]⟩ from rfl)
  have HE0 := hide (show encM r = if fmB r then some (encR r) else none from rfl)
  have HER := hide (show encR r = outE r 6 ++ encS r.text from rfl)
  obtain ⟨w0, hw0⟩ : ∃ w0, w.alloc (.cells (cR r).toArray 49) = w0 := ⟨_, rfl⟩
  have HW0 := hide hw0
  rw [hw0] at hb0 gR hF
  have HG := hide (And.intro gR hb0)
  obtain ⟨x0, x1, x2, x3, x4, x5, x6⟩ := gR.allR
  have hlt := gR.lt
  cases hfm : fmB r with
  | false =>
    rw [hfm] at hF HE0
    clear hfm hw0 gR hb0
    obtain ⟨rp, rn, rt, ro, rw', rk, rx⟩ := r
    unfold rcV at hF ⊢
    unfold cR at HW0
    dsimp only at hF HW0 x0 x1 x2 x3 x4 x5 x6 ⊢
    go_enter Tryz.func31, Tryz.ntmps31
    go_wp2_with (go_at_call 50; rw [HW0.out]; refine hF.mono ?_; clear hF x0 x1 x2 x3 x4 x5 x6; rintro e w1 ⟨rfl, hb1⟩)
    go_ret2
    exact ⟨bthen HG.out.2 hb1, by rw [HE0.out]; rfl⟩
  | true =>
    rw [hfm] at hF HE0
    obtain ⟨h1, h2, h3, h4, h5, h6, h7, h8, h9⟩ := fm_num hfm
    obtain ⟨k1, k2, k3, k4⟩ := fm_all hfm
    have hput : ∀ (n : Int) (W : World), -1000000 ≤ n → n ≤ 10000000 → Calls Tryz.prog 70 #[.int .i64 n] W fun e w' => Below W.heap.size W w' ∧ e = .returned (.tuple #[.string (encI n), .int .i64 0]) := fun n W g1 g2 => by
      have := c_wPutInt n W
      rw [show putI n = some (encI n) by unfold putI maxI; rw [if_pos ⟨by omega, by omega⟩]] at this
      exact this
    have hpts : ∀ W : World, Calls Tryz.prog 71 #[.string r.text] W fun e w' => Below W.heap.size W w' ∧ e = .returned (.tuple #[.string (encS r.text), .int .i64 0]) := fun W => by
      have := c_wPutString r.text W
      rw [show putS r.text = some (encS r.text) by unfold putS; rw [if_pos (by omega)]] at this
      exact this
    have hsz : (encS r.text).size ≤ 5000 := by
      have := encI_size (n := (r.text.size : Int)) (by unfold maxI; omega) (by unfold maxI; omega)
      unfold encS
      rw [ByteArray.size_append]
      omega
    have HS := hide hsz
    have HO : Hid (∃ f, outE r = f) := hide ⟨_, rfl⟩
    clear hfm hw0 gR hb0 hsz
    have hen : ∀ n : Int, -1000000 ≤ n → n ≤ 10000000 → (encI n).size ≤ 9 := fun n g1 g2 => encI_size (by unfold maxI; omega) (by unfold maxI; omega)
    have HEN := hide hen
    have HOut := hide (fun i => outE_size r (fun n hn => hen n (nsR_in hn h3 h4 h5 h6 h1 h2 h7 h8 k1 k2 k3 k4).1 (nsR_in hn h3 h4 h5 h6 h1 h2 h7 h8 k1 k2 k3 k4).2) i)
    have HST := hide (show outE r 1 = outE r 0 ++ encI r.pen ∧ outE r 2 = outE r 1 ++ encI r.num ∧ outE r 3 = outE r 2 ++ encI r.at_ ∧ outE r 4 = outE r 3 ++ encI (r.of + 1) ∧ outE r 5 = outE r 4 ++ encI r.which ∧ outE r 6 = outE r 5 ++ encI r.kind from ⟨rfl, rfl, rfl, rfl, rfl, rfl⟩)
    have HX : Hid (∀ W, Below w0.heap.size w0 W → W.cell? ⟨w.heap.size, 6, none⟩ = some (.string r.text)) := hide (fun W h => ((HG.out.1.below h HG.out.1.lt).allR).2.2.2.2.2.2)
    obtain ⟨f, hf⟩ := HO.out
    rw [hf] at HOut HRf HER HST
    obtain ⟨et, het⟩ : ∃ et, encS r.text = et := ⟨_, rfl⟩
    rw [het] at HER HS
    simp only [het] at hpts
    clear hen HO hf het
    obtain ⟨rp, rn, rt, ro, rw', rk, rx⟩ := r
    unfold rcV at hF ⊢
    unfold cR at HW0
    dsimp only at hF HW0 x0 x1 x2 x3 x4 x5 x6 h1 h2 h3 h4 h5 h6 h7 h8 h9 k1 k2 k3 k4 hpts HST HX HS ⊢
    go_enter Tryz.func31, Tryz.ntmps31
    go_wp2_with (go_at_call 50; rw [HW0.out]; refine hF.mono ?_; clear hF; rintro e w1 ⟨rfl, hb1⟩; obtain ⟨y0, y1, y2, y3, y4, y5, y6⟩ := (HG.out.1.below hb1 HG.out.1.lt).allR; have h1l := (HG.out.1.below hb1 HG.out.1.lt).lt; have H1 := hide hb1; clear hb1 x0 x1 x2 x3 x4 x5 x6)
    go_loopw [4, 28] (fun s i W => ∃ k : Nat, k ≤ 6 ∧ i = .int .i64 k ∧ s = .string (f k) ∧ Below w1.heap.size w1 W) (fun _ i _ => 6 - (intOf i).toNat)
    case atStart => exact ⟨0, by omega, rfl, by rw [HRf.out], Below.refl _ _⟩
    case round =>
      obtain ⟨k, hk, rfl, rfl, hb⟩ := hrel
      by_cases hlt : k < 6
      · have hk6 : k = 0 ∨ k = 1 ∨ k = 2 ∨ k = 3 ∨ k = 4 ∨ k = 5 := by omega
        rcases hk6 with rfl | rfl | rfl | rfl | rfl | rfl
        · have hco := hput (rp) wr (by omega) (by omega)
          have hsz : (f 0).size + (encI (rp)).size ≤ 9223372036854775807 := by have g1 := HOut.out 0; have g2 := HEN.out (rp) (by omega) (by omega); omega
          have HN := hide (HST.out.1)
          have hix : ∀ w : World, (Instr.index 90 (.agg #[.int .i64 rp, .int .i64 rn, .int .i64 rt, .int .i64 (ro + 1), .int .i64 rw', .int .i64 rk]) (.int .i64 0)).run Tryz.prog w = .ok (.int .i64 (rp)) w := fun w => by kernel_rfl
          generalize f 0 = s0 at *
          generalize encI (rp) = s1 at *
          go_wp2_with (go_at_call 70; refine hco.mono ?_; clear hco; rintro e w2 ⟨hb2, rfl⟩)
          exact ⟨⟨1, by omega, rfl, by rw [HN.out], bthen hb hb2⟩, by simp [intOf]⟩
        · have hco := hput (rn) wr (by omega) (by omega)
          have hsz : (f 1).size + (encI (rn)).size ≤ 9223372036854775807 := by have g1 := HOut.out 1; have g2 := HEN.out (rn) (by omega) (by omega); omega
          have HN := hide (HST.out.2.1)
          have hix : ∀ w : World, (Instr.index 90 (.agg #[.int .i64 rp, .int .i64 rn, .int .i64 rt, .int .i64 (ro + 1), .int .i64 rw', .int .i64 rk]) (.int .i64 1)).run Tryz.prog w = .ok (.int .i64 (rn)) w := fun w => by kernel_rfl
          generalize f 1 = s0 at *
          generalize encI (rn) = s1 at *
          go_wp2_with (go_at_call 70; refine hco.mono ?_; clear hco; rintro e w2 ⟨hb2, rfl⟩)
          exact ⟨⟨2, by omega, rfl, by rw [HN.out], bthen hb hb2⟩, by simp [intOf]⟩
        · have hco := hput (rt) wr (by omega) (by omega)
          have hsz : (f 2).size + (encI (rt)).size ≤ 9223372036854775807 := by have g1 := HOut.out 2; have g2 := HEN.out (rt) (by omega) (by omega); omega
          have HN := hide (HST.out.2.2.1)
          have hix : ∀ w : World, (Instr.index 90 (.agg #[.int .i64 rp, .int .i64 rn, .int .i64 rt, .int .i64 (ro + 1), .int .i64 rw', .int .i64 rk]) (.int .i64 2)).run Tryz.prog w = .ok (.int .i64 (rt)) w := fun w => by kernel_rfl
          generalize f 2 = s0 at *
          generalize encI (rt) = s1 at *
          go_wp2_with (go_at_call 70; refine hco.mono ?_; clear hco; rintro e w2 ⟨hb2, rfl⟩)
          exact ⟨⟨3, by omega, rfl, by rw [HN.out], bthen hb hb2⟩, by simp [intOf]⟩
        · have hco := hput (ro + 1) wr (by omega) (by omega)
          have hsz : (f 3).size + (encI (ro + 1)).size ≤ 9223372036854775807 := by have g1 := HOut.out 3; have g2 := HEN.out (ro + 1) (by omega) (by omega); omega
          have HN := hide (HST.out.2.2.2.1)
          have hix : ∀ w : World, (Instr.index 90 (.agg #[.int .i64 rp, .int .i64 rn, .int .i64 rt, .int .i64 (ro + 1), .int .i64 rw', .int .i64 rk]) (.int .i64 3)).run Tryz.prog w = .ok (.int .i64 (ro + 1)) w := fun w => by kernel_rfl
          generalize f 3 = s0 at *
          generalize encI (ro + 1) = s1 at *
          go_wp2_with (go_at_call 70; refine hco.mono ?_; clear hco; rintro e w2 ⟨hb2, rfl⟩)
          exact ⟨⟨4, by omega, rfl, by rw [HN.out], bthen hb hb2⟩, by simp [intOf]⟩
        · have hco := hput (rw') wr (by omega) (by omega)
          have hsz : (f 4).size + (encI (rw')).size ≤ 9223372036854775807 := by have g1 := HOut.out 4; have g2 := HEN.out (rw') (by omega) (by omega); omega
          have HN := hide (HST.out.2.2.2.2.1)
          have hix : ∀ w : World, (Instr.index 90 (.agg #[.int .i64 rp, .int .i64 rn, .int .i64 rt, .int .i64 (ro + 1), .int .i64 rw', .int .i64 rk]) (.int .i64 4)).run Tryz.prog w = .ok (.int .i64 (rw')) w := fun w => by kernel_rfl
          generalize f 4 = s0 at *
          generalize encI (rw') = s1 at *
          go_wp2_with (go_at_call 70; refine hco.mono ?_; clear hco; rintro e w2 ⟨hb2, rfl⟩)
          exact ⟨⟨5, by omega, rfl, by rw [HN.out], bthen hb hb2⟩, by simp [intOf]⟩
        · have hco := hput (rk) wr (by omega) (by omega)
          have hsz : (f 5).size + (encI (rk)).size ≤ 9223372036854775807 := by have g1 := HOut.out 5; have g2 := HEN.out (rk) (by omega) (by omega); omega
          have HN := hide (HST.out.2.2.2.2.2)
          have hix : ∀ w : World, (Instr.index 90 (.agg #[.int .i64 rp, .int .i64 rn, .int .i64 rt, .int .i64 (ro + 1), .int .i64 rw', .int .i64 rk]) (.int .i64 5)).run Tryz.prog w = .ok (.int .i64 (rk)) w := fun w => by kernel_rfl
          generalize f 5 = s0 at *
          generalize encI (rk) = s1 at *
          go_wp2_with (go_at_call 70; refine hco.mono ?_; clear hco; rintro e w2 ⟨hb2, rfl⟩)
          exact ⟨⟨6, by omega, rfl, by rw [HN.out], bthen hb hb2⟩, by simp [intOf]⟩
      · obtain rfl : k = 6 := by omega
        have hco := hpts wr
        have hsz : (f 6).size + et.size ≤ 9223372036854775807 := by have g1 := HOut.out 6; have g2 := HS.out; omega
        have hx6 := HX.out wr (bthen H1.out hb)
        have hlw : w.heap.size < wr.heap.size := Nat.lt_of_lt_of_le h1l (hb.size)
        generalize f 6 = s0 at *
        go_wp2_with (go_at_call 71; refine hco.mono ?_; clear hco; rintro e w2 ⟨hb2, rfl⟩)
        go_ret2
        refine ⟨bthen HG.out.2 (bthen (bthen H1.out hb) hb2), ?_⟩
        first | rw [HE0.out, if_pos rfl, HER.out] | rw [HE0.out, HER.out]
        rfl
set_option linter.unusedSimpArgs false in
set_option maxRecDepth 100000 in
set_option maxHeartbeats 8000000 in
theorem c_rEncode (r : Rc) (w : World)  : Calls Tryz.prog 32 #[rcV r] w (EncPost r w) := by
  have hb0 := balloc (Below.refl w.heap.size w) (.cells (cR r).toArray 49)
  have gR := Blk.new w 49 (cR r)
  have hF := c_rFormed r (w.alloc (.cells (cR r).toArray 49))
  have HRf := hide (show outE r 0 = ⟨#[]⟩ from rfl)
  have HE0 := hide (show encM r = if fmB r then some (encR r) else none from rfl)
  have HER := hide (show encR r = outE r 6 ++ encS r.text from rfl)
  obtain ⟨w0, hw0⟩ : ∃ w0, w.alloc (.cells (cR r).toArray 49) = w0 := ⟨_, rfl⟩
  have HW0 := hide hw0
  rw [hw0] at hb0 gR hF
  have HG := hide (And.intro gR hb0)
  obtain ⟨x0, x1, x2, x3, x4, x5, x6⟩ := gR.allR
  have hlt := gR.lt
  cases hfm : fmB r with
  | false =>
    rw [hfm] at hF HE0
    clear hfm hw0 gR hb0
    obtain ⟨rp, rn, rt, ro, rw', rk, rx⟩ := r
    unfold rcV at hF ⊢
    unfold cR at HW0
    dsimp only at hF HW0 x0 x1 x2 x3 x4 x5 x6 ⊢
    go_enter Tryz.func32, Tryz.ntmps32
    go_wp2_with (go_at_call 56; rw [HW0.out]; refine hF.mono ?_; clear hF x0 x1 x2 x3 x4 x5 x6; rintro e w1 ⟨rfl, hb1⟩)
    go_ret2
    exact ⟨bthen HG.out.2 hb1, by rw [HE0.out]; rfl⟩
  | true =>
    rw [hfm] at hF HE0
    obtain ⟨h1, h2, h3, h4, h5, h6, h7, h8, h9⟩ := fm_num hfm
    obtain ⟨k1, k2, k3, k4⟩ := fm_all hfm
    have hput : ∀ (n : Int) (W : World), -1000000 ≤ n → n ≤ 10000000 → Calls Tryz.prog 72 #[.int .i64 n] W fun e w' => Below W.heap.size W w' ∧ e = .returned (.tuple #[.string (encI n), .int .i64 0]) := fun n W g1 g2 => by
      have := c_qPutInt n W
      rw [show putI n = some (encI n) by unfold putI maxI; rw [if_pos ⟨by omega, by omega⟩]] at this
      exact this
    have hpts : ∀ W : World, Calls Tryz.prog 73 #[.string r.text] W fun e w' => Below W.heap.size W w' ∧ e = .returned (.tuple #[.string (encS r.text), .int .i64 0]) := fun W => by
      have := c_qPutString r.text W
      rw [show putS r.text = some (encS r.text) by unfold putS; rw [if_pos (by omega)]] at this
      exact this
    have hsz : (encS r.text).size ≤ 5000 := by
      have := encI_size (n := (r.text.size : Int)) (by unfold maxI; omega) (by unfold maxI; omega)
      unfold encS
      rw [ByteArray.size_append]
      omega
    have HS := hide hsz
    have HO : Hid (∃ f, outE r = f) := hide ⟨_, rfl⟩
    clear hfm hw0 gR hb0 hsz
    have hen : ∀ n : Int, -1000000 ≤ n → n ≤ 10000000 → (encI n).size ≤ 9 := fun n g1 g2 => encI_size (by unfold maxI; omega) (by unfold maxI; omega)
    have HEN := hide hen
    have HOut := hide (fun i => outE_size r (fun n hn => hen n (nsR_in hn h3 h4 h5 h6 h1 h2 h7 h8 k1 k2 k3 k4).1 (nsR_in hn h3 h4 h5 h6 h1 h2 h7 h8 k1 k2 k3 k4).2) i)
    have HST := hide (show outE r 1 = outE r 0 ++ encI r.pen ∧ outE r 2 = outE r 1 ++ encI r.num ∧ outE r 3 = outE r 2 ++ encI r.at_ ∧ outE r 4 = outE r 3 ++ encI (r.of + 1) ∧ outE r 5 = outE r 4 ++ encI r.which ∧ outE r 6 = outE r 5 ++ encI r.kind from ⟨rfl, rfl, rfl, rfl, rfl, rfl⟩)
    have HX : Hid (∀ W, Below w0.heap.size w0 W → W.cell? ⟨w.heap.size, 6, none⟩ = some (.string r.text)) := hide (fun W h => ((HG.out.1.below h HG.out.1.lt).allR).2.2.2.2.2.2)
    obtain ⟨f, hf⟩ := HO.out
    rw [hf] at HOut HRf HER HST
    obtain ⟨et, het⟩ : ∃ et, encS r.text = et := ⟨_, rfl⟩
    rw [het] at HER HS
    simp only [het] at hpts
    clear hen HO hf het
    obtain ⟨rp, rn, rt, ro, rw', rk, rx⟩ := r
    unfold rcV at hF ⊢
    unfold cR at HW0
    dsimp only at hF HW0 x0 x1 x2 x3 x4 x5 x6 h1 h2 h3 h4 h5 h6 h7 h8 h9 k1 k2 k3 k4 hpts HST HX HS ⊢
    go_enter Tryz.func32, Tryz.ntmps32
    go_wp2_with (go_at_call 56; rw [HW0.out]; refine hF.mono ?_; clear hF; rintro e w1 ⟨rfl, hb1⟩; obtain ⟨y0, y1, y2, y3, y4, y5, y6⟩ := (HG.out.1.below hb1 HG.out.1.lt).allR; have h1l := (HG.out.1.below hb1 HG.out.1.lt).lt; have H1 := hide hb1; clear hb1 x0 x1 x2 x3 x4 x5 x6)
    have hbS := balloc (Below.refl w1.heap.size w1) (.cells #[.int .i64 rp, .int .i64 rn, .int .i64 rt, .int .i64 (ro + 1), .int .i64 rw', .int .i64 rk] 3)
    have gS := Blk.new w1 3 [.int .i64 rp, .int .i64 rn, .int .i64 rt, .int .i64 (ro + 1), .int .i64 rw', .int .i64 rk]
    generalize w1.alloc (.cells #[.int .i64 rp, .int .i64 rn, .int .i64 rt, .int .i64 (ro + 1), .int .i64 rw', .int .i64 rk] 3) = wS at *
    have HSS := hide (And.intro gS hbS)
    clear gS hbS
    go_loopw [4, 29] (fun s i W => ∃ k : Nat, k ≤ 6 ∧ i = .int .i64 k ∧ s = .string (f k) ∧ Below wS.heap.size wS W) (fun _ i _ => 6 - (intOf i).toNat)
    case atStart => exact ⟨0, by omega, rfl, by rw [HRf.out], Below.refl _ _⟩
    case round =>
      obtain ⟨k, hk, rfl, rfl, hb⟩ := hrel
      by_cases hlt : k < 6
      · have hk6 : k = 0 ∨ k = 1 ∨ k = 2 ∨ k = 3 ∨ k = 4 ∨ k = 5 := by omega
        rcases hk6 with rfl | rfl | rfl | rfl | rfl | rfl
        · have hco := hput (rp) wr (by omega) (by omega)
          have hsz : (f 0).size + (encI (rp)).size ≤ 9223372036854775807 := by have g1 := HOut.out 0; have g2 := HEN.out (rp) (by omega) (by omega); omega
          have HN := hide (HST.out.1)
          have hcc := (HSS.out.1.below hb HSS.out.1.lt).cell 0
          have hccl := (HSS.out.1.below hb HSS.out.1.lt).lt
          generalize f 0 = s0 at *
          generalize encI (rp) = s1 at *
          go_wp2_with (go_at_call 72; refine hco.mono ?_; clear hco; rintro e w2 ⟨hb2, rfl⟩)
          exact ⟨⟨1, by omega, rfl, by rw [HN.out], bthen hb hb2⟩, by simp [intOf]⟩
        · have hco := hput (rn) wr (by omega) (by omega)
          have hsz : (f 1).size + (encI (rn)).size ≤ 9223372036854775807 := by have g1 := HOut.out 1; have g2 := HEN.out (rn) (by omega) (by omega); omega
          have HN := hide (HST.out.2.1)
          have hcc := (HSS.out.1.below hb HSS.out.1.lt).cell 1
          have hccl := (HSS.out.1.below hb HSS.out.1.lt).lt
          generalize f 1 = s0 at *
          generalize encI (rn) = s1 at *
          go_wp2_with (go_at_call 72; refine hco.mono ?_; clear hco; rintro e w2 ⟨hb2, rfl⟩)
          exact ⟨⟨2, by omega, rfl, by rw [HN.out], bthen hb hb2⟩, by simp [intOf]⟩
        · have hco := hput (rt) wr (by omega) (by omega)
          have hsz : (f 2).size + (encI (rt)).size ≤ 9223372036854775807 := by have g1 := HOut.out 2; have g2 := HEN.out (rt) (by omega) (by omega); omega
          have HN := hide (HST.out.2.2.1)
          have hcc := (HSS.out.1.below hb HSS.out.1.lt).cell 2
          have hccl := (HSS.out.1.below hb HSS.out.1.lt).lt
          generalize f 2 = s0 at *
          generalize encI (rt) = s1 at *
          go_wp2_with (go_at_call 72; refine hco.mono ?_; clear hco; rintro e w2 ⟨hb2, rfl⟩)
          exact ⟨⟨3, by omega, rfl, by rw [HN.out], bthen hb hb2⟩, by simp [intOf]⟩
        · have hco := hput (ro + 1) wr (by omega) (by omega)
          have hsz : (f 3).size + (encI (ro + 1)).size ≤ 9223372036854775807 := by have g1 := HOut.out 3; have g2 := HEN.out (ro + 1) (by omega) (by omega); omega
          have HN := hide (HST.out.2.2.2.1)
          have hcc := (HSS.out.1.below hb HSS.out.1.lt).cell 3
          have hccl := (HSS.out.1.below hb HSS.out.1.lt).lt
          generalize f 3 = s0 at *
          generalize encI (ro + 1) = s1 at *
          go_wp2_with (go_at_call 72; refine hco.mono ?_; clear hco; rintro e w2 ⟨hb2, rfl⟩)
          exact ⟨⟨4, by omega, rfl, by rw [HN.out], bthen hb hb2⟩, by simp [intOf]⟩
        · have hco := hput (rw') wr (by omega) (by omega)
          have hsz : (f 4).size + (encI (rw')).size ≤ 9223372036854775807 := by have g1 := HOut.out 4; have g2 := HEN.out (rw') (by omega) (by omega); omega
          have HN := hide (HST.out.2.2.2.2.1)
          have hcc := (HSS.out.1.below hb HSS.out.1.lt).cell 4
          have hccl := (HSS.out.1.below hb HSS.out.1.lt).lt
          generalize f 4 = s0 at *
          generalize encI (rw') = s1 at *
          go_wp2_with (go_at_call 72; refine hco.mono ?_; clear hco; rintro e w2 ⟨hb2, rfl⟩)
          exact ⟨⟨5, by omega, rfl, by rw [HN.out], bthen hb hb2⟩, by simp [intOf]⟩
        · have hco := hput (rk) wr (by omega) (by omega)
          have hsz : (f 5).size + (encI (rk)).size ≤ 9223372036854775807 := by have g1 := HOut.out 5; have g2 := HEN.out (rk) (by omega) (by omega); omega
          have HN := hide (HST.out.2.2.2.2.2)
          have hcc := (HSS.out.1.below hb HSS.out.1.lt).cell 5
          have hccl := (HSS.out.1.below hb HSS.out.1.lt).lt
          generalize f 5 = s0 at *
          generalize encI (rk) = s1 at *
          go_wp2_with (go_at_call 72; refine hco.mono ?_; clear hco; rintro e w2 ⟨hb2, rfl⟩)
          exact ⟨⟨6, by omega, rfl, by rw [HN.out], bthen hb hb2⟩, by simp [intOf]⟩
      · obtain rfl : k = 6 := by omega
        have hco := hpts wr
        have hsz : (f 6).size + et.size ≤ 9223372036854775807 := by have g1 := HOut.out 6; have g2 := HS.out; omega
        have hx6 := HX.out wr (bthen H1.out (bthen HSS.out.2 hb))
        have hlw : w.heap.size < wr.heap.size := Nat.lt_of_lt_of_le h1l ((bthen HSS.out.2 hb).size)
        generalize f 6 = s0 at *
        go_wp2_with (go_at_call 73; refine hco.mono ?_; clear hco; rintro e w2 ⟨hb2, rfl⟩)
        go_ret2
        refine ⟨bthen HG.out.2 (bthen (bthen H1.out (bthen HSS.out.2 hb)) hb2), ?_⟩
        first | rw [HE0.out, if_pos rfl, HER.out] | rw [HE0.out, HER.out]
        rfl
end Go.Proofs.YtcfbgelhggapjaaGreatDoor
/- Replica: the reference's Decode. -/
namespace Go.Proofs.YtcfbgelhggapjaaGreatDoor
open Go.RowKit Go.Shelf
/-- the first k numbers of a string, one behind the other -/
def dcK (s : ByteArray) (g : Nat → Int) (k a : Nat) : Prop := ∃ av : Nat → Nat, av 0 = 0 ∧ av k = a ∧ ∀ i, i < k → decI s (av i) = some (g i, av (i + 1))
def upd (g : Nat → Int) (k : Nat) (n : Int) : Nat → Int := fun i => if i = k then n else g i
theorem dcK.next {s : ByteArray} {g : Nat → Int} {k a : Nat} {n : Int} {m : Nat} (h : dcK s g k a) (hd : decI s a = some (n, m)) : dcK s (upd g k n) (k + 1) m := by
  obtain ⟨av, h1, h2, h3⟩ := h
  refine ⟨fun i => if i = k + 1 then m else av i, (if_neg (by omega)).trans h1, if_pos rfl, fun i hi => ?_⟩
  dsimp only
  rw [if_neg (by omega)]
  by_cases e : i = k
  · subst e
    rw [if_pos rfl, h2, hd]
    simp [upd]
  · rw [if_neg (by omega), h3 i (by omega)]
    simp [upd, e]
theorem dcK.stop {s : ByteArray} {g : Nat → Int} {k a : Nat} (h : dcK s g k a) (hk : k < 6) (hd : decI s a = none) : decM s = none := by
  obtain ⟨av, h1, h2, h3⟩ := h
  subst h2
  have hk6 : k = 0 ∨ k = 1 ∨ k = 2 ∨ k = 3 ∨ k = 4 ∨ k = 5 := by omega
  have h30 := fun (h : 0 < k) => h3 0 h
  rw [h1] at h30
  unfold decM
  rcases hk6 with rfl | rfl | rfl | rfl | rfl | rfl
  · rw [← h1, hd]
  · rw [h30 (by omega)]; dsimp only; rw [hd]
  · rw [h30 (by omega)]; dsimp only; rw [h3 1 (by omega)]; dsimp only; rw [hd]
  · rw [h30 (by omega)]; dsimp only; rw [h3 1 (by omega)]; dsimp only; rw [h3 2 (by omega)]; dsimp only; rw [hd]
  · rw [h30 (by omega)]; dsimp only; rw [h3 1 (by omega)]; dsimp only; rw [h3 2 (by omega)]; dsimp only; rw [h3 3 (by omega)]; dsimp only; rw [hd]
  · rw [h30 (by omega)]; dsimp only; rw [h3 1 (by omega)]; dsimp only; rw [h3 2 (by omega)]; dsimp only; rw [h3 3 (by omega)]; dsimp only; rw [h3 4 (by omega)]; dsimp only; rw [hd]
theorem dcK.all {s : ByteArray} {g : Nat → Int} {a : Nat} (h : dcK s g 6 a) : decM s = match decS s a with | none => none | some (x, m) => if m = s.size ∧ fmB ⟨g 0, g 1, g 2, g 3 - 1, g 4, g 5, x⟩ = true then some ⟨g 0, g 1, g 2, g 3 - 1, g 4, g 5, x⟩ else none := by
  obtain ⟨av, h1, h2, h3⟩ := h
  subst h2
  have h30 := h3 0 (by omega)
  rw [h1] at h30
  unfold decM
  rw [h30]; dsimp only; rw [h3 1 (by omega)]; dsimp only; rw [h3 2 (by omega)]; dsimp only; rw [h3 3 (by omega)]; dsimp only; rw [h3 4 (by omega)]; dsimp only; rw [h3 5 (by omega)]
  rfl
theorem decI_max {s : ByteArray} {a : Nat} {n : Int} {m : Nat} (ha : a ≤ s.size) (h : decI s a = some (n, m)) : n ≤ maxI := by
  obtain ⟨h1, h2, h3, h4, _⟩ := decI_some ha h
  have h5 := valG_encG (zz n)
  have h6 := valG_lt (encG (zz n))
  rw [h5, ← h4, List.length_take] at h6
  have h7 : (128 : Nat) ^ (min (m - a) ((bN s).drop a).length) ≤ 128 ^ 9 := Nat.pow_le_pow_right (by decide) (by omega)
  have h8 : (128 : Nat) ^ 9 = 9223372036854775808 := by decide
  unfold zz at h6
  unfold maxI
  split at h6 <;> omega
theorem dcK.range {s : ByteArray} {g : Nat → Int} {k a : Nat} (h : dcK s g k a) : a ≤ s.size := by
  obtain ⟨av, h1, h2, h3⟩ := h
  have : ∀ i, i ≤ k → av i ≤ s.size := by
    intro i
    induction i with
    | zero => intro _; rw [h1]; exact Nat.zero_le _
    | succ i ih => intro hi; exact (decI_some (ih (by omega)) (h3 i (by omega))).2.1
  rw [← h2]
  exact this k (Nat.le_refl _)
theorem dcK.word {s : ByteArray} {g : Nat → Int} {k a : Nat} (h : dcK s g k a) {i : Nat} (hi : i < k) : -maxI ≤ g i ∧ g i ≤ maxI := by
  obtain ⟨av, h1, h2, h3⟩ := h
  have : ∀ i, i ≤ k → av i ≤ s.size := by
    intro i
    induction i with
    | zero => intro _; rw [h1]; exact Nat.zero_le _
    | succ i ih => intro hi; exact (decI_some (ih (by omega)) (h3 i (by omega))).2.1
  exact ⟨(decI_some (this i (by omega)) (h3 i hi)).2.2.2.2, decI_max (this i (by omega)) (h3 i hi)⟩
/-- six numbers av they lie in memory -/
def g6 (g : Nat → Int) : List Value := [.int .i64 (g 0), .int .i64 (g 1), .int .i64 (g 2), .int .i64 (g 3), .int .i64 (g 4), .int .i64 (g 5)]
theorem g6_set (g : Nat → Int) {k : Nat} (hk : k < 6) (n : Int) : (g6 g).set k (.int .i64 n) = g6 (upd g k n) := by
  match k, hk with
  | 0, _ | 1, _ | 2, _ | 3, _ | 4, _ | 5, _ => simp [g6, upd]
theorem g7_set (g : Nat → Int) {k : Nat} (hk : k < 6) (n : Int) (x : Value) : (g6 g ++ [x]).set k (.int .i64 n) = g6 (upd g k n) ++ [x] := by
  match k, hk with
  | 0, _ | 1, _ | 2, _ | 3, _ | 4, _ | 5, _ => simp [g6, upd]
theorem g6_get (g : Nat → Int) {k : Nat} (hk : k < 6) : (g6 g)[k]? = some (.int .i64 (g k)) := by
  match k, hk with
  | 0, _ | 1, _ | 2, _ | 3, _ | 4, _ | 5, _ => rfl
def zC : List Value := [.int .i64 0, .int .i64 0, .int .i64 0, .int .i64 0, .int .i64 0, .int .i64 0, .string ⟨#[]⟩]
theorem Blk.all7 {w : World} {g : Nat} {t : TypeId} {x0 x1 x2 x3 x4 x5 x6 : Value} (h : Blk w g t [x0, x1, x2, x3, x4, x5, x6]) : (w.cell? ⟨g, 0, none⟩ = some x0 ∧ w.cell? ⟨g, 1, none⟩ = some x1 ∧ w.cell? ⟨g, 2, none⟩ = some x2 ∧
    w.cell? ⟨g, 3, none⟩ = some x3 ∧ w.cell? ⟨g, 4, none⟩ = some x4 ∧ w.cell? ⟨g, 5, none⟩ = some x5 ∧ w.cell? ⟨g, 6, none⟩ = some x6) ∧ (w.frozen? ⟨g, 0, none⟩ = false ∧ w.frozen? ⟨g, 1, none⟩ = false ∧ w.frozen? ⟨g, 2, none⟩ = false ∧ w.frozen? ⟨g, 3, none⟩ = false ∧ w.frozen? ⟨g, 4, none⟩ = false ∧ w.frozen? ⟨g, 5, none⟩ = false ∧ w.frozen? ⟨g, 6, none⟩ = false) :=
  ⟨⟨h.cell 0, h.cell 1, h.cell 2, h.cell 3, h.cell 4, h.cell 5, h.cell 6⟩, h.free 0, h.free 1, h.free 2, h.free 3, h.free 4, h.free 5, h.free 6⟩
/-- seven cells written one after the other -/
def sev7 (W : World) (b : Nat) (x0 x1 x2 x3 x4 x5 x6 : Value) : World := ((((((W.setCell ⟨b, 0, none⟩ x0).setCell ⟨b, 1, none⟩ x1).setCell ⟨b, 2, none⟩ x2).setCell ⟨b, 3, none⟩ x3).setCell ⟨b, 4, none⟩ x4).setCell ⟨b, 5, none⟩ x5).setCell ⟨b, 6, none⟩ x6
theorem Blk.sev7 {W : World} {b : Nat} {t : TypeId} {y0 y1 y2 y3 y4 y5 y6 : Value} (h : Blk W b t [y0, y1, y2, y3, y4, y5, y6]) (x0 x1 x2 x3 x4 x5 x6 : Value) : Blk (sev7 W b x0 x1 x2 x3 x4 x5 x6) b t [x0, x1, x2, x3, x4, x5, x6] :=
  ((((((h.set 0 x0).set 1 x1).set 2 x2).set 3 x3).set 4 x4).set 5 x5).set 6 x6
theorem below_sev7 {w W : World} {b : Nat} (h : Below w.heap.size w W) (hb : w.heap.size ≤ b) (x0 x1 x2 x3 x4 x5 x6 : Value) : Below w.heap.size w (sev7 W b x0 x1 x2 x3 x4 x5 x6) :=
  bset (p := ⟨b, 6, none⟩) (bset (p := ⟨b, 5, none⟩) (bset (p := ⟨b, 4, none⟩) (bset (p := ⟨b, 3, none⟩) (bset (p := ⟨b, 2, none⟩) (bset (p := ⟨b, 1, none⟩) (bset (p := ⟨b, 0, none⟩) h hb _) hb _) hb _) hb _) hb _) hb _) hb _
theorem Blk.all6 {w : World} {b : Nat} {t : TypeId} {g : Nat → Int} (h : Blk w b t (g6 g)) : w.cell? ⟨b, 0, none⟩ = some (.int .i64 (g 0)) ∧ w.cell? ⟨b, 1, none⟩ = some (.int .i64 (g 1)) ∧ w.cell? ⟨b, 2, none⟩ = some (.int .i64 (g 2)) ∧ w.cell? ⟨b, 3, none⟩ = some (.int .i64 (g 3)) ∧ w.cell? ⟨b, 4, none⟩ = some (.int .i64 (g 4)) ∧ w.cell? ⟨b, 5, none⟩ = some (.int .i64 (g 5)) :=
  ⟨h.cell 0, h.cell 1, h.cell 2, h.cell 3, h.cell 4, h.cell 5⟩
/-- the answer of Decode -/
def DecPost (s : ByteArray) (w : World) (e : Ending) (w' : World) : Prop :=
  Below w.heap.size w w' ∧ e = .returned (.tuple #[rcV ((decM s).getD zRc), .int .i64 (if (decM s).isSome then 0 else 350)])
set_option linter.unusedSimpArgs false in
set_option maxRecDepth 100000 in
set_option maxHeartbeats 8000000 in
theorem c_rDecode (s : ByteArray) (w : World) (hs : s.size ≤ 1000000) : Calls Tryz.prog 36 #[.string s] w (DecPost s w) := by
  have hZ := Blk.new w 49 zC
  have hb0 := balloc (balloc (Below.refl w.heap.size w) (.cells zC.toArray 49)) (.cells (g6 fun _ => 0).toArray 90)
  have gN : Blk ((w.alloc (.cells zC.toArray 49)).alloc (.cells (g6 fun _ => 0).toArray 90)) (w.heap.size + 1) 90 (g6 fun _ => 0) := by
    have := Blk.new (w.alloc (.cells zC.toArray 49)) 90 (g6 fun _ => 0)
    rw [show (w.alloc (.cells zC.toArray 49)).heap.size = w.heap.size + 1 from by simp] at this
    exact this
  have H0 := hide (And.intro (hZ.alloc (.cells (g6 fun _ => 0).toArray 90)) (And.intro gN hb0))
  clear hZ hb0 gN
  go_enter Tryz.func36, Tryz.ntmps36
  go_wp2
  go_loopw [5, 6] (fun a i W => ∃ (k : Nat) (at_ : Nat) (g : Nat → Int), k ≤ 6 ∧ i = .int .i64 k ∧ a = .int .i64 at_ ∧ dcK s g k at_ ∧ Blk W w.heap.size 49 zC ∧ Blk W (w.heap.size + 1) 90 (g6 g) ∧ Below w.heap.size w W) (fun _ i _ => 6 - (intOf i).toNat)
  case atStart => exact ⟨0, 0, fun _ => 0, by omega, rfl, rfl, ⟨fun _ => 0, rfl, rfl, fun i hi => absurd hi (by omega)⟩, H0.out.1, H0.out.2.1, H0.out.2.2⟩
  case round =>
    clear H0
    obtain ⟨k, a, g, hk, rfl, rfl, hd, gZ, gN, hb⟩ := hrel
    have ha := hd.range
    by_cases hlt : k < 6
    · have hki : (k : Int) < 6 := by omega
      have hk6 : (k : Int) < 6 := hki
      have hco := c_qInt s a wr ha hs
      cases hi : decI s a with
      | none =>
        rw [hi] at hco
        have HN := hide (hd.stop hlt hi)
        have HB := hide (And.intro gZ hb)
        unfold intV at hco
        dsimp only at hco
        clear hi hd gN gZ hb
        go_wp2_with (go_at_call 76; refine hco.mono ?_; clear hco; rintro e w2 ⟨rfl, hb2⟩; obtain ⟨⟨z0, z1, z2, z3, z4, z5, z6⟩, y0, y1, y2, y3, y4, y5, y6⟩ := (HB.out.1.below hb2 HB.out.1.lt).all7; have hz2 := (HB.out.1.below hb2 HB.out.1.lt).lt; have HB2 := hide hb2; clear hb2)
        have g7 := (HB.out.1.below HB2.out HB.out.1.lt).sev7 (.int .i64 0) (.int .i64 0) (.int .i64 0) (.int .i64 0) (.int .i64 0) (.int .i64 0) (.string ⟨#[]⟩)
        have hb7 := below_sev7 (bthen HB.out.2 HB2.out) (Nat.le_refl w.heap.size) (.int .i64 0) (.int .i64 0) (.int .i64 0) (.int .i64 0) (.int .i64 0) (.int .i64 0) (.string ⟨#[]⟩)
        unfold sev7 at g7 hb7
        generalize ((((((w2.setCell ⟨w.heap.size, 0, none⟩ (.int .i64 0)).setCell ⟨w.heap.size, 1, none⟩ (.int .i64 0)).setCell ⟨w.heap.size, 2, none⟩ (.int .i64 0)).setCell ⟨w.heap.size, 3, none⟩ (.int .i64 0)).setCell ⟨w.heap.size, 4, none⟩ (.int .i64 0)).setCell ⟨w.heap.size, 5, none⟩ (.int .i64 0)).setCell ⟨w.heap.size, 6, none⟩ (.string ⟨#[]⟩) = w7 at *
        obtain ⟨⟨q0, q1, q2, q3, q4, q5, q6⟩, -⟩ := g7.all7
        refine bodyPost_ret (v := .tuple #[.agg #[.int .i64 0, .int .i64 0, .int .i64 0, .int .i64 0, .int .i64 0, .int .i64 0, .string ⟨#[]⟩], .int .i64 350]) (by simp [results, Tryz.results36, go_sem, q0, q1, q2, q3, q4, q5, q6]) rfl ⟨hb7, ?_⟩
        rw [HN.out]
        rfl
      | some q =>
        obtain ⟨n, m⟩ := q
        rw [hi] at hco
        have HD := hide (hd.next hi)
        have hm := (decI_some ha hi).2.1
        unfold intV at hco
        dsimp only at hco
        have HB := hide (And.intro gZ (And.intro gN hb))
        have hgl := gN.lt
        clear hi hd gN gZ hb
        go_wp2_with (go_at_call 76; refine hco.mono ?_; clear hco; rintro e w2 ⟨rfl, hb2⟩; have gN2 := HB.out.2.1.below hb2 HB.out.2.1.lt; have hgc := (gN2.cell k).trans (g6_get g hlt); have hgf := gN2.free k; have hgl2 := gN2.lt; have HB2 := hide hb2; clear hb2)
        refine ⟨⟨k + 1, m, upd g k n, hlt, rfl, rfl, HD.out, (HB.out.1.below HB2.out HB.out.1.lt).other (by simp) _, ?_, bset (bthen HB.out.2.2 HB2.out) (by simp) _⟩, ?_⟩
        · rw [← g6_set g hlt n]; exact gN2.set k (.int .i64 n)
        · show 6 - ((k : Int) + 1).toNat < 6 - ((k : Nat) : Int).toNat
          omega
    · obtain rfl : k = 6 := by omega
      have hco := c_qString s a wr ha hs
      have HA := hide hd.all
      have hw3 := hd.word (i := 3) (by omega)
      unfold maxI at hw3
      obtain ⟨hw3a, hw3b⟩ := hw3
      have HB := hide (And.intro gZ (And.intro gN hb))
      obtain ⟨c0, c1, c2, c3, c4, c5⟩ := gN.all6
      have hzl := gZ.lt
      have hnl := gN.lt
      clear hd gZ gN hb
      cases hds : decS s a with
      | none =>
        rw [hds] at hco
        have HN := hide (show decM s = none by rw [HA.out, hds])
        unfold strV at hco
        dsimp only at hco
        clear hds
        go_upto_region 13 with (go_at_call 77; refine hco.mono ?_; clear hco; rintro e w2 ⟨rfl, hb2⟩; obtain ⟨c0, c1, c2, c3, c4, c5⟩ := (HB.out.2.1.below hb2 HB.out.2.1.lt).all6; have hn2 := (HB.out.2.1.below hb2 HB.out.2.1.lt).lt; have HB2 := hide hb2; clear hb2)
        have HZ := hide (And.intro ((HB.out.1.below HB2.out HB.out.1.lt).alloc (.cells #[.int .i64 (g 0), .int .i64 (g 1), .int .i64 (g 2), .int .i64 (g 3 - 1), .int .i64 (g 4), .int .i64 (g 5), .string ⟨#[]⟩] 49)) (balloc (bthen HB.out.2.2 HB2.out) (.cells #[.int .i64 (g 0), .int .i64 (g 1), .int .i64 (g 2), .int .i64 (g 3 - 1), .int .i64 (g 4), .int .i64 (g 5), .string ⟨#[]⟩] 49)))
        generalize w2.alloc (.cells #[.int .i64 (g 0), .int .i64 (g 1), .int .i64 (g 2), .int .i64 (g 3 - 1), .int .i64 (g 4), .int .i64 (g 5), .string ⟨#[]⟩] 49) = w3 at *
        obtain ⟨⟨z0, z1, z2, z3, z4, z5, z6⟩, y0, y1, y2, y3, y4, y5, y6⟩ := HZ.out.1.all7; have hz2 := HZ.out.1.lt
        clear c0 c1 c2 c3 c4 c5
        go_wp2_with fail
        have g7 := (HZ.out.1).sev7 (.int .i64 0) (.int .i64 0) (.int .i64 0) (.int .i64 0) (.int .i64 0) (.int .i64 0) (.string ⟨#[]⟩)
        have hb7 := below_sev7 (HZ.out.2) (Nat.le_refl w.heap.size) (.int .i64 0) (.int .i64 0) (.int .i64 0) (.int .i64 0) (.int .i64 0) (.int .i64 0) (.string ⟨#[]⟩)
        unfold sev7 at g7 hb7
        generalize ((((((w3.setCell ⟨w.heap.size, 0, none⟩ (.int .i64 0)).setCell ⟨w.heap.size, 1, none⟩ (.int .i64 0)).setCell ⟨w.heap.size, 2, none⟩ (.int .i64 0)).setCell ⟨w.heap.size, 3, none⟩ (.int .i64 0)).setCell ⟨w.heap.size, 4, none⟩ (.int .i64 0)).setCell ⟨w.heap.size, 5, none⟩ (.int .i64 0)).setCell ⟨w.heap.size, 6, none⟩ (.string ⟨#[]⟩) = w7 at *
        obtain ⟨⟨q0, q1, q2, q3, q4, q5, q6⟩, -⟩ := g7.all7
        refine bodyPost_ret (v := .tuple #[.agg #[.int .i64 0, .int .i64 0, .int .i64 0, .int .i64 0, .int .i64 0, .int .i64 0, .string ⟨#[]⟩], .int .i64 350]) (by simp [results, Tryz.results36, go_sem, q0, q1, q2, q3, q4, q5, q6]) rfl ⟨hb7, ?_⟩
        rw [HN.out]
        rfl
      | some q =>
        obtain ⟨x, m⟩ := q
        rw [hds] at hco
        have HA2 := hide (show decM s = if m = s.size ∧ fmB ⟨g 0, g 1, g 2, g 3 - 1, g 4, g 5, x⟩ = true then some ⟨g 0, g 1, g 2, g 3 - 1, g 4, g 5, x⟩ else none by rw [HA.out, hds])
        unfold strV at hco
        dsimp only at hco
        have hms := (decS_some ha hds).2.1
        clear hds
        go_upto_region 13 with (go_at_call 77; refine hco.mono ?_; clear hco; rintro e w2 ⟨rfl, hb2⟩; obtain ⟨c0, c1, c2, c3, c4, c5⟩ := (HB.out.2.1.below hb2 HB.out.2.1.lt).all6; have hn2 := (HB.out.2.1.below hb2 HB.out.2.1.lt).lt; have HB2 := hide hb2; clear hb2)
        have HZ := hide (And.intro ((HB.out.1.below HB2.out HB.out.1.lt).alloc (.cells #[.int .i64 (g 0), .int .i64 (g 1), .int .i64 (g 2), .int .i64 (g 3 - 1), .int .i64 (g 4), .int .i64 (g 5), .string x] 49)) (And.intro (balloc (bthen HB.out.2.2 HB2.out) (.cells #[.int .i64 (g 0), .int .i64 (g 1), .int .i64 (g 2), .int .i64 (g 3 - 1), .int .i64 (g 4), .int .i64 (g 5), .string x] 49)) (Blk.new w2 49 [.int .i64 (g 0), .int .i64 (g 1), .int .i64 (g 2), .int .i64 (g 3 - 1), .int .i64 (g 4), .int .i64 (g 5), .string x])))
        generalize w2.alloc (.cells #[.int .i64 (g 0), .int .i64 (g 1), .int .i64 (g 2), .int .i64 (g 3 - 1), .int .i64 (g 4), .int .i64 (g 5), .string x] 49) = w3 at *
        obtain ⟨⟨r0, r1, r2, r3, r4, r5, r6⟩, -⟩ := HZ.out.2.2.all7
        have hr3 := HZ.out.2.2.lt
        clear c0 c1 c2 c3 c4 c5
        by_cases hm : m = s.size
        · have hF := c_rFormed ⟨g 0, g 1, g 2, g 3 - 1, g 4, g 5, x⟩ w3
          unfold rcV at hF
          dsimp only at hF
          have hmi : ((m : Int) = (s.size : Int)) := by omega
          cases hfm : fmB ⟨g 0, g 1, g 2, g 3 - 1, g 4, g 5, x⟩ with
          | false =>
            rw [hfm] at hF
            have HN := hide (show decM s = none by rw [HA2.out, hfm]; simp)
            clear hfm hm
            go_wp2_with (go_at_call 56; refine hF.mono ?_; clear hF r0 r1 r2 r3 r4 r5 r6; rintro e w4 ⟨rfl, hb4⟩; obtain ⟨⟨z0, z1, z2, z3, z4, z5, z6⟩, y0, y1, y2, y3, y4, y5, y6⟩ := (HZ.out.1.below hb4 HZ.out.1.lt).all7; have hz2 := (HZ.out.1.below hb4 HZ.out.1.lt).lt; have H4 := hide hb4; clear hb4)
            have g7 := (HZ.out.1.below H4.out HZ.out.1.lt).sev7 (.int .i64 0) (.int .i64 0) (.int .i64 0) (.int .i64 0) (.int .i64 0) (.int .i64 0) (.string ⟨#[]⟩)
            have hb7 := below_sev7 (bthen HZ.out.2.1 H4.out) (Nat.le_refl w.heap.size) (.int .i64 0) (.int .i64 0) (.int .i64 0) (.int .i64 0) (.int .i64 0) (.int .i64 0) (.string ⟨#[]⟩)
            unfold sev7 at g7 hb7
            generalize ((((((w4.setCell ⟨w.heap.size, 0, none⟩ (.int .i64 0)).setCell ⟨w.heap.size, 1, none⟩ (.int .i64 0)).setCell ⟨w.heap.size, 2, none⟩ (.int .i64 0)).setCell ⟨w.heap.size, 3, none⟩ (.int .i64 0)).setCell ⟨w.heap.size, 4, none⟩ (.int .i64 0)).setCell ⟨w.heap.size, 5, none⟩ (.int .i64 0)).setCell ⟨w.heap.size, 6, none⟩ (.string ⟨#[]⟩) = w7 at *
            obtain ⟨⟨q0, q1, q2, q3, q4, q5, q6⟩, -⟩ := g7.all7
            refine bodyPost_ret (v := .tuple #[.agg #[.int .i64 0, .int .i64 0, .int .i64 0, .int .i64 0, .int .i64 0, .int .i64 0, .string ⟨#[]⟩], .int .i64 350]) (by simp [results, Tryz.results36, go_sem, q0, q1, q2, q3, q4, q5, q6]) rfl ⟨hb7, ?_⟩
            rw [HN.out]
            rfl
          | true =>
            rw [hfm] at hF
            have HN := hide (show decM s = some ⟨g 0, g 1, g 2, g 3 - 1, g 4, g 5, x⟩ by rw [HA2.out, if_pos ⟨hm, hfm⟩])
            clear hfm hm
            go_wp2_with (go_at_call 56; refine hF.mono ?_; clear hF r0 r1 r2 r3 r4 r5 r6; rintro e w4 ⟨rfl, hb4⟩; obtain ⟨⟨z0, z1, z2, z3, z4, z5, z6⟩, y0, y1, y2, y3, y4, y5, y6⟩ := (HZ.out.1.below hb4 HZ.out.1.lt).all7; obtain ⟨⟨r0, r1, r2, r3, r4, r5, r6⟩, -⟩ := (HZ.out.2.2.below hb4 HZ.out.2.2.lt).all7; have hr4 := (HZ.out.2.2.below hb4 HZ.out.2.2.lt).lt; have hz2 := (HZ.out.1.below hb4 HZ.out.1.lt).lt; have H4 := hide hb4; clear hb4)
            have g7 := (HZ.out.1.below H4.out HZ.out.1.lt).sev7 (.int .i64 (g 0)) (.int .i64 (g 1)) (.int .i64 (g 2)) (.int .i64 (g 3 - 1)) (.int .i64 (g 4)) (.int .i64 (g 5)) (.string x)
            have hb7 := below_sev7 (bthen HZ.out.2.1 H4.out) (Nat.le_refl w.heap.size) (.int .i64 (g 0)) (.int .i64 (g 1)) (.int .i64 (g 2)) (.int .i64 (g 3 - 1)) (.int .i64 (g 4)) (.int .i64 (g 5)) (.string x)
            unfold sev7 at g7 hb7
            generalize ((((((w4.setCell ⟨w.heap.size, 0, none⟩ (.int .i64 (g 0))).setCell ⟨w.heap.size, 1, none⟩ (.int .i64 (g 1))).setCell ⟨w.heap.size, 2, none⟩ (.int .i64 (g 2))).setCell ⟨w.heap.size, 3, none⟩ (.int .i64 (g 3 - 1))).setCell ⟨w.heap.size, 4, none⟩ (.int .i64 (g 4))).setCell ⟨w.heap.size, 5, none⟩ (.int .i64 (g 5))).setCell ⟨w.heap.size, 6, none⟩ (.string x) = w7 at *
            obtain ⟨⟨q0, q1, q2, q3, q4, q5, q6⟩, -⟩ := g7.all7
            refine bodyPost_ret (v := .tuple #[.agg #[.int .i64 (g 0), .int .i64 (g 1), .int .i64 (g 2), .int .i64 (g 3 - 1), .int .i64 (g 4), .int .i64 (g 5), .string x], .int .i64 0]) (by simp [results, Tryz.results36, go_sem, q0, q1, q2, q3, q4, q5, q6]) rfl ⟨hb7, ?_⟩
            rw [HN.out]
            rfl
        · have HN := hide (show decM s = none by rw [HA2.out, if_neg (fun h => hm h.1)])
          have hmi : ¬ ((m : Int) = (s.size : Int)) := by omega
          obtain ⟨⟨z0, z1, z2, z3, z4, z5, z6⟩, y0, y1, y2, y3, y4, y5, y6⟩ := HZ.out.1.all7; have hz2 := HZ.out.1.lt
          clear hm r0 r1 r2 r3 r4 r5 r6
          go_wp2_with fail
          have g7 := (HZ.out.1).sev7 (.int .i64 0) (.int .i64 0) (.int .i64 0) (.int .i64 0) (.int .i64 0) (.int .i64 0) (.string ⟨#[]⟩)
          have hb7 := below_sev7 (HZ.out.2.1) (Nat.le_refl w.heap.size) (.int .i64 0) (.int .i64 0) (.int .i64 0) (.int .i64 0) (.int .i64 0) (.int .i64 0) (.string ⟨#[]⟩)
          unfold sev7 at g7 hb7
          generalize ((((((w3.setCell ⟨w.heap.size, 0, none⟩ (.int .i64 0)).setCell ⟨w.heap.size, 1, none⟩ (.int .i64 0)).setCell ⟨w.heap.size, 2, none⟩ (.int .i64 0)).setCell ⟨w.heap.size, 3, none⟩ (.int .i64 0)).setCell ⟨w.heap.size, 4, none⟩ (.int .i64 0)).setCell ⟨w.heap.size, 5, none⟩ (.int .i64 0)).setCell ⟨w.heap.size, 6, none⟩ (.string ⟨#[]⟩) = w7 at *
          obtain ⟨⟨q0, q1, q2, q3, q4, q5, q6⟩, -⟩ := g7.all7
          refine bodyPost_ret (v := .tuple #[.agg #[.int .i64 0, .int .i64 0, .int .i64 0, .int .i64 0, .int .i64 0, .int .i64 0, .string ⟨#[]⟩], .int .i64 350]) (by simp [results, Tryz.results36, go_sem, q0, q1, q2, q3, q4, q5, q6]) rfl ⟨hb7, ?_⟩
          rw [HN.out]
          rfl
end Go.Proofs.YtcfbgelhggapjaaGreatDoor
/- Replica: the package's Decode. -/
namespace Go.Proofs.YtcfbgelhggapjaaGreatDoor
open Go.RowKit Go.Shelf
/-- the fields of a record that is being read -/
def g7 (g : Nat → Int) (x : ByteArray) : List Value := [.int .i64 (g 0), .int .i64 (g 1), .int .i64 (g 2), .int .i64 (g 3), .int .i64 (g 4), .int .i64 (g 5), .string x]
theorem g7s (g : Nat → Int) (x : ByteArray) {k : Nat} (hk : k < 6) (n : Int) : (g7 g x).set k (.int .i64 n) = g7 (upd g k n) x := by
  match k, hk with
  | 0, _ | 1, _ | 2, _ | 3, _ | 4, _ | 5, _ => simp [g7, upd]
theorem g7_get (g : Nat → Int) (x : ByteArray) {k : Nat} (hk : k < 6) : (g7 g x)[k]? = some (.int .i64 (g k)) := by
  match k, hk with
  | 0, _ | 1, _ | 2, _ | 3, _ | 4, _ | 5, _ => rfl
set_option linter.unusedSimpArgs false in
set_option maxRecDepth 100000 in
set_option maxHeartbeats 8000000 in
theorem c_pDecode (s : ByteArray) (w : World) (hrl : RL w) (hs : s.size ≤ 1000000) : Calls Tryz.prog 35 #[.string s] w (DecPost s w) := by
  have hZ := Blk.new w 49 zC
  have hb0 := balloc (balloc (Below.refl w.heap.size w) (.cells zC.toArray 49)) (.cells zC.toArray 49)
  have gN : Blk ((w.alloc (.cells zC.toArray 49)).alloc (.cells zC.toArray 49)) (w.heap.size + 1) 49 (g7 (fun _ => 0) ⟨#[]⟩) := by
    have := Blk.new (w.alloc (.cells zC.toArray 49)) 49 zC
    rw [show (w.alloc (.cells zC.toArray 49)).heap.size = w.heap.size + 1 from by simp] at this
    exact this
  have H0 := hide (And.intro (hZ.alloc (.cells zC.toArray 49)) (And.intro gN hb0))
  have hx0 : ∀ W : World, (Instr.index 94 (.agg #[.pointer (some ⟨w.heap.size + 1, 0, none⟩), .pointer (some ⟨w.heap.size + 1, 1, none⟩), .pointer (some ⟨w.heap.size + 1, 2, none⟩), .pointer (some ⟨w.heap.size + 1, 3, none⟩), .pointer (some ⟨w.heap.size + 1, 4, none⟩), .pointer (some ⟨w.heap.size + 1, 5, none⟩)]) (.int .i64 0)).run Tryz.prog W = .ok (.pointer (some ⟨w.heap.size + 1, 0, none⟩)) W := fun W => by kernel_rfl
  have hx1 : ∀ W : World, (Instr.index 94 (.agg #[.pointer (some ⟨w.heap.size + 1, 0, none⟩), .pointer (some ⟨w.heap.size + 1, 1, none⟩), .pointer (some ⟨w.heap.size + 1, 2, none⟩), .pointer (some ⟨w.heap.size + 1, 3, none⟩), .pointer (some ⟨w.heap.size + 1, 4, none⟩), .pointer (some ⟨w.heap.size + 1, 5, none⟩)]) (.int .i64 1)).run Tryz.prog W = .ok (.pointer (some ⟨w.heap.size + 1, 1, none⟩)) W := fun W => by kernel_rfl
  have hx2 : ∀ W : World, (Instr.index 94 (.agg #[.pointer (some ⟨w.heap.size + 1, 0, none⟩), .pointer (some ⟨w.heap.size + 1, 1, none⟩), .pointer (some ⟨w.heap.size + 1, 2, none⟩), .pointer (some ⟨w.heap.size + 1, 3, none⟩), .pointer (some ⟨w.heap.size + 1, 4, none⟩), .pointer (some ⟨w.heap.size + 1, 5, none⟩)]) (.int .i64 2)).run Tryz.prog W = .ok (.pointer (some ⟨w.heap.size + 1, 2, none⟩)) W := fun W => by kernel_rfl
  have hx3 : ∀ W : World, (Instr.index 94 (.agg #[.pointer (some ⟨w.heap.size + 1, 0, none⟩), .pointer (some ⟨w.heap.size + 1, 1, none⟩), .pointer (some ⟨w.heap.size + 1, 2, none⟩), .pointer (some ⟨w.heap.size + 1, 3, none⟩), .pointer (some ⟨w.heap.size + 1, 4, none⟩), .pointer (some ⟨w.heap.size + 1, 5, none⟩)]) (.int .i64 3)).run Tryz.prog W = .ok (.pointer (some ⟨w.heap.size + 1, 3, none⟩)) W := fun W => by kernel_rfl
  have hx4 : ∀ W : World, (Instr.index 94 (.agg #[.pointer (some ⟨w.heap.size + 1, 0, none⟩), .pointer (some ⟨w.heap.size + 1, 1, none⟩), .pointer (some ⟨w.heap.size + 1, 2, none⟩), .pointer (some ⟨w.heap.size + 1, 3, none⟩), .pointer (some ⟨w.heap.size + 1, 4, none⟩), .pointer (some ⟨w.heap.size + 1, 5, none⟩)]) (.int .i64 4)).run Tryz.prog W = .ok (.pointer (some ⟨w.heap.size + 1, 4, none⟩)) W := fun W => by kernel_rfl
  have hx5 : ∀ W : World, (Instr.index 94 (.agg #[.pointer (some ⟨w.heap.size + 1, 0, none⟩), .pointer (some ⟨w.heap.size + 1, 1, none⟩), .pointer (some ⟨w.heap.size + 1, 2, none⟩), .pointer (some ⟨w.heap.size + 1, 3, none⟩), .pointer (some ⟨w.heap.size + 1, 4, none⟩), .pointer (some ⟨w.heap.size + 1, 5, none⟩)]) (.int .i64 5)).run Tryz.prog W = .ok (.pointer (some ⟨w.heap.size + 1, 5, none⟩)) W := fun W => by kernel_rfl
  have hix : ∀ k : Nat, k < 6 → ∀ W : World, (Instr.index 94 (.agg #[.pointer (some ⟨w.heap.size + 1, 0, none⟩), .pointer (some ⟨w.heap.size + 1, 1, none⟩), .pointer (some ⟨w.heap.size + 1, 2, none⟩), .pointer (some ⟨w.heap.size + 1, 3, none⟩), .pointer (some ⟨w.heap.size + 1, 4, none⟩), .pointer (some ⟨w.heap.size + 1, 5, none⟩)]) (.int .i64 (k : Int))).run Tryz.prog W = .ok (.pointer (some ⟨w.heap.size + 1, k, none⟩)) W := by
    intro k hk W
    have hk6 : k = 0 ∨ k = 1 ∨ k = 2 ∨ k = 3 ∨ k = 4 ∨ k = 5 := by omega
    rcases hk6 with rfl | rfl | rfl | rfl | rfl | rfl
    · exact hx0 W
    · exact hx1 W
    · exact hx2 W
    · exact hx3 W
    · exact hx4 W
    · exact hx5 W
  clear hx0 hx1 hx2 hx3 hx4 hx5
  have HIX := hide hix
  have HRL : Hid (∀ W, Below w.heap.size w W → RL W) := hide (fun W h => hrl.to' h)
  clear hZ hb0 gN hix hrl
  go_enter Tryz.func35, Tryz.ntmps35
  go_wp2
  go_loopw [5, 16] (fun a i W => ∃ (k : Nat) (at_ : Nat) (g : Nat → Int), k ≤ 6 ∧ i = .int .i64 k ∧ a = .int .i64 at_ ∧ dcK s g k at_ ∧ Blk W w.heap.size 49 zC ∧ Blk W (w.heap.size + 1) 49 (g7 g ⟨#[]⟩) ∧ Below w.heap.size w W) (fun _ i _ => 6 - (intOf i).toNat)
  case atStart => exact ⟨0, 0, fun _ => 0, by omega, rfl, rfl, ⟨fun _ => 0, rfl, rfl, fun i hi => absurd hi (by omega)⟩, H0.out.1, H0.out.2.1, H0.out.2.2⟩
  case round =>
    clear H0
    obtain ⟨k, a, g, hk, rfl, rfl, hd, gZ, gN, hb⟩ := hrel
    have ha := hd.range
    by_cases hlt : k < 6
    · have hki : (k : Int) < 6 := by omega
      have hco := c_wInt s a wr ha hs
      have hix := HIX.out k hlt
      cases hi : decI s a with
      | none =>
        rw [hi] at hco
        have HN := hide (hd.stop hlt hi)
        have HB := hide (And.intro gZ (And.intro gN hb))
        unfold intV at hco
        dsimp only at hco
        clear hi hd gN gZ hb
        go_upto_region 8 with (go_at_call 74; refine hco.mono ?_; clear hco; rintro e w2 ⟨rfl, hb2⟩; have gN2 := HB.out.2.1.below hb2 HB.out.2.1.lt; have hgc := (gN2.cell k).trans (g7_get g ⟨#[]⟩ hlt); have hgf := gN2.free k; have hgl2 := gN2.lt; have HB2 := hide hb2; clear hb2)
        have HZ := hide (And.intro ((HB.out.1.below HB2.out HB.out.1.lt).other (g := w.heap.size) (p := ⟨w.heap.size + 1, k, none⟩) (by simp) (.int .i64 0)) (bset (p := ⟨w.heap.size + 1, k, none⟩) (bthen HB.out.2.2 HB2.out) (by simp) (.int .i64 0)))
        generalize w2.setCell ⟨w.heap.size + 1, k, none⟩ (.int .i64 0) = w3 at *
        obtain ⟨⟨z0, z1, z2, z3, z4, z5, z6⟩, y0, y1, y2, y3, y4, y5, y6⟩ := HZ.out.1.all7
        have hz2 := HZ.out.1.lt
        clear hgc hgf hgl2 gN2
        go_wp2_with fail
        have g7 := (HZ.out.1).sev7 (.int .i64 0) (.int .i64 0) (.int .i64 0) (.int .i64 0) (.int .i64 0) (.int .i64 0) (.string ⟨#[]⟩)
        have hb7 := below_sev7 (HZ.out.2) (Nat.le_refl w.heap.size) (.int .i64 0) (.int .i64 0) (.int .i64 0) (.int .i64 0) (.int .i64 0) (.int .i64 0) (.string ⟨#[]⟩)
        unfold sev7 at g7 hb7
        generalize ((((((w3.setCell ⟨w.heap.size, 0, none⟩ (.int .i64 0)).setCell ⟨w.heap.size, 1, none⟩ (.int .i64 0)).setCell ⟨w.heap.size, 2, none⟩ (.int .i64 0)).setCell ⟨w.heap.size, 3, none⟩ (.int .i64 0)).setCell ⟨w.heap.size, 4, none⟩ (.int .i64 0)).setCell ⟨w.heap.size, 5, none⟩ (.int .i64 0)).setCell ⟨w.heap.size, 6, none⟩ (.string ⟨#[]⟩) = w7 at *
        obtain ⟨⟨q0, q1, q2, q3, q4, q5, q6⟩, -⟩ := g7.all7
        refine bodyPost_ret (v := .tuple #[.agg #[.int .i64 0, .int .i64 0, .int .i64 0, .int .i64 0, .int .i64 0, .int .i64 0, .string ⟨#[]⟩], .int .i64 350]) (by simp [results, Tryz.results35, go_sem, q0, q1, q2, q3, q4, q5, q6]) rfl ⟨hb7, ?_⟩
        rw [HN.out]
        rfl
      | some q =>
        obtain ⟨n, m⟩ := q
        rw [hi] at hco
        have HD := hide (hd.next hi)
        unfold intV at hco
        dsimp only at hco
        have HB := hide (And.intro gZ (And.intro gN hb))
        clear hi hd gN gZ hb
        go_wp2_with (go_at_call 74; refine hco.mono ?_; clear hco; rintro e w2 ⟨rfl, hb2⟩; have gN2 := HB.out.2.1.below hb2 HB.out.2.1.lt; have hgc := (gN2.cell k).trans (g7_get g ⟨#[]⟩ hlt); have hgf := gN2.free k; have hgl2 := gN2.lt; have HB2 := hide hb2; clear hb2)
        refine ⟨⟨k + 1, m, upd g k n, hlt, rfl, rfl, HD.out, (HB.out.1.below HB2.out HB.out.1.lt).other (by simp) _, ?_, bset (bthen HB.out.2.2 HB2.out) (by simp) _⟩, ?_⟩
        · rw [← g7s g ⟨#[]⟩ hlt n]; exact gN2.set k (.int .i64 n)
        · show 6 - ((k : Int) + 1).toNat < 6 - ((k : Nat) : Int).toNat
          omega
    · obtain rfl : k = 6 := by omega
      have hco := c_wString s a wr ha hs
      have HA := hide hd.all
      obtain ⟨hw3a, hw3b⟩ := hd.word (i := 3) (by omega)
      unfold maxI at hw3a hw3b
      have HB := hide (And.intro gZ (And.intro gN hb))
      have hzl := gZ.lt
      have hnl := gN.lt
      clear hd gZ gN hb
      cases hds : decS s a with
      | none =>
        rw [hds] at hco
        have HN := hide (show decM s = none by rw [HA.out, hds])
        unfold strV at hco
        dsimp only at hco
        clear hds
        go_upto_region 12 with (go_at_call 75; refine hco.mono ?_; clear hco; rintro e w2 ⟨rfl, hb2⟩; obtain ⟨⟨c0, c1, c2, c3, c4, c5, c6⟩, f0, f1, f2, f3, f4, f5, f6⟩ := (HB.out.2.1.below hb2 HB.out.2.1.lt).all7; have hn2 := (HB.out.2.1.below hb2 HB.out.2.1.lt).lt; have HB2 := hide hb2; clear hb2)
        have HZ := hide (And.intro ((HB.out.1.below HB2.out HB.out.1.lt).other (g := w.heap.size) (p := ⟨w.heap.size + 1, 6, none⟩) (by simp) (.string ⟨#[]⟩)) (bset (p := ⟨w.heap.size + 1, 6, none⟩) (bthen HB.out.2.2 HB2.out) (by simp) (.string ⟨#[]⟩)))
        generalize w2.setCell ⟨w.heap.size + 1, 6, none⟩ (.string ⟨#[]⟩) = w3 at *
        obtain ⟨⟨z0, z1, z2, z3, z4, z5, z6⟩, y0, y1, y2, y3, y4, y5, y6⟩ := HZ.out.1.all7
        have hz2 := HZ.out.1.lt
        clear c0 c1 c2 c3 c4 c5 c6 f0 f1 f2 f3 f4 f5 f6 hn2
        go_wp2_with fail
        have g7 := (HZ.out.1).sev7 (.int .i64 0) (.int .i64 0) (.int .i64 0) (.int .i64 0) (.int .i64 0) (.int .i64 0) (.string ⟨#[]⟩)
        have hb7 := below_sev7 (HZ.out.2) (Nat.le_refl w.heap.size) (.int .i64 0) (.int .i64 0) (.int .i64 0) (.int .i64 0) (.int .i64 0) (.int .i64 0) (.string ⟨#[]⟩)
        unfold sev7 at g7 hb7
        generalize ((((((w3.setCell ⟨w.heap.size, 0, none⟩ (.int .i64 0)).setCell ⟨w.heap.size, 1, none⟩ (.int .i64 0)).setCell ⟨w.heap.size, 2, none⟩ (.int .i64 0)).setCell ⟨w.heap.size, 3, none⟩ (.int .i64 0)).setCell ⟨w.heap.size, 4, none⟩ (.int .i64 0)).setCell ⟨w.heap.size, 5, none⟩ (.int .i64 0)).setCell ⟨w.heap.size, 6, none⟩ (.string ⟨#[]⟩) = w7 at *
        obtain ⟨⟨q0, q1, q2, q3, q4, q5, q6⟩, -⟩ := g7.all7
        refine bodyPost_ret (v := .tuple #[.agg #[.int .i64 0, .int .i64 0, .int .i64 0, .int .i64 0, .int .i64 0, .int .i64 0, .string ⟨#[]⟩], .int .i64 350]) (by simp [results, Tryz.results35, go_sem, q0, q1, q2, q3, q4, q5, q6]) rfl ⟨hb7, ?_⟩
        rw [HN.out]
        rfl
      | some q =>
        obtain ⟨x, m⟩ := q
        rw [hds] at hco
        have HA2 := hide (show decM s = if m = s.size ∧ fmB ⟨g 0, g 1, g 2, g 3 - 1, g 4, g 5, x⟩ = true then some ⟨g 0, g 1, g 2, g 3 - 1, g 4, g 5, x⟩ else none by rw [HA.out, hds])
        unfold strV at hco
        dsimp only at hco
        have hms := (decS_some ha hds).2.1
        clear hds
        go_upto_region 14 with (go_at_call 75; refine hco.mono ?_; clear hco; rintro e w2 ⟨rfl, hb2⟩; obtain ⟨⟨c0, c1, c2, c3, c4, c5, c6⟩, f0, f1, f2, f3, f4, f5, f6⟩ := (HB.out.2.1.below hb2 HB.out.2.1.lt).all7; have hn2 := (HB.out.2.1.below hb2 HB.out.2.1.lt).lt; have HB2 := hide hb2; clear hb2)
        have HZ := hide (And.intro (((HB.out.1.below HB2.out HB.out.1.lt).other (g := w.heap.size) (p := ⟨w.heap.size + 1, 6, none⟩) (by simp) (.string x)).other (g := w.heap.size) (p := ⟨w.heap.size + 1, 3, none⟩) (by simp) (.int .i64 (g 3 - 1))) (And.intro (bset (p := ⟨w.heap.size + 1, 3, none⟩) (bset (p := ⟨w.heap.size + 1, 6, none⟩) (bthen HB.out.2.2 HB2.out) (by simp) (.string x)) (by simp) (.int .i64 (g 3 - 1))) (show Blk ((w2.setCell ⟨w.heap.size + 1, 6, none⟩ (.string x)).setCell ⟨w.heap.size + 1, 3, none⟩ (.int .i64 (g 3 - 1))) (w.heap.size + 1) 49 [.int .i64 (g 0), .int .i64 (g 1), .int .i64 (g 2), .int .i64 (g 3 - 1), .int .i64 (g 4), .int .i64 (g 5), .string x] from ((HB.out.2.1.below HB2.out HB.out.2.1.lt).set 6 (.string x)).set 3 (.int .i64 (g 3 - 1)))))
        generalize (w2.setCell ⟨w.heap.size + 1, 6, none⟩ (.string x)).setCell ⟨w.heap.size + 1, 3, none⟩ (.int .i64 (g 3 - 1)) = w3 at *
        obtain ⟨⟨r0, r1, r2, r3, r4, r5, r6⟩, -⟩ := HZ.out.2.2.all7
        have hr3 := HZ.out.2.2.lt
        clear c0 c1 c2 c3 c4 c5 c6 f0 f1 f2 f3 f4 f5 f6 hn2
        by_cases hm : m = s.size
        · have hF := c_pformed ⟨g 0, g 1, g 2, g 3 - 1, g 4, g 5, x⟩ w3 (HRL.out w3 HZ.out.2.1)
          unfold rcV at hF
          dsimp only at hF
          have hmi : ((m : Int) = (s.size : Int)) := by omega
          cases hfm : fmB ⟨g 0, g 1, g 2, g 3 - 1, g 4, g 5, x⟩ with
          | false =>
            rw [hfm] at hF
            have HN := hide (show decM s = none by rw [HA2.out, hfm]; simp)
            clear hfm hm
            go_wp2_with (go_at_call 50; refine hF.mono ?_; clear hF r0 r1 r2 r3 r4 r5 r6; rintro e w4 ⟨rfl, hb4⟩; obtain ⟨⟨z0, z1, z2, z3, z4, z5, z6⟩, y0, y1, y2, y3, y4, y5, y6⟩ := (HZ.out.1.below hb4 HZ.out.1.lt).all7; have hz2 := (HZ.out.1.below hb4 HZ.out.1.lt).lt; have H4 := hide hb4; clear hb4)
            have g7 := (HZ.out.1.below H4.out HZ.out.1.lt).sev7 (.int .i64 0) (.int .i64 0) (.int .i64 0) (.int .i64 0) (.int .i64 0) (.int .i64 0) (.string ⟨#[]⟩)
            have hb7 := below_sev7 (bthen HZ.out.2.1 H4.out) (Nat.le_refl w.heap.size) (.int .i64 0) (.int .i64 0) (.int .i64 0) (.int .i64 0) (.int .i64 0) (.int .i64 0) (.string ⟨#[]⟩)
            unfold sev7 at g7 hb7
            generalize ((((((w4.setCell ⟨w.heap.size, 0, none⟩ (.int .i64 0)).setCell ⟨w.heap.size, 1, none⟩ (.int .i64 0)).setCell ⟨w.heap.size, 2, none⟩ (.int .i64 0)).setCell ⟨w.heap.size, 3, none⟩ (.int .i64 0)).setCell ⟨w.heap.size, 4, none⟩ (.int .i64 0)).setCell ⟨w.heap.size, 5, none⟩ (.int .i64 0)).setCell ⟨w.heap.size, 6, none⟩ (.string ⟨#[]⟩) = w7 at *
            obtain ⟨⟨q0, q1, q2, q3, q4, q5, q6⟩, -⟩ := g7.all7
            refine bodyPost_ret (v := .tuple #[.agg #[.int .i64 0, .int .i64 0, .int .i64 0, .int .i64 0, .int .i64 0, .int .i64 0, .string ⟨#[]⟩], .int .i64 350]) (by simp [results, Tryz.results35, go_sem, q0, q1, q2, q3, q4, q5, q6]) rfl ⟨hb7, ?_⟩
            rw [HN.out]
            rfl
          | true =>
            rw [hfm] at hF
            have HN := hide (show decM s = some ⟨g 0, g 1, g 2, g 3 - 1, g 4, g 5, x⟩ by rw [HA2.out, if_pos ⟨hm, hfm⟩])
            clear hfm hm
            go_wp2_with (go_at_call 50; refine hF.mono ?_; clear hF r0 r1 r2 r3 r4 r5 r6; rintro e w4 ⟨rfl, hb4⟩; obtain ⟨⟨z0, z1, z2, z3, z4, z5, z6⟩, y0, y1, y2, y3, y4, y5, y6⟩ := (HZ.out.1.below hb4 HZ.out.1.lt).all7; obtain ⟨⟨r0, r1, r2, r3, r4, r5, r6⟩, -⟩ := (HZ.out.2.2.below hb4 HZ.out.2.2.lt).all7; have hr4 := (HZ.out.2.2.below hb4 HZ.out.2.2.lt).lt; have hz2 := (HZ.out.1.below hb4 HZ.out.1.lt).lt; have H4 := hide hb4; clear hb4)
            have g7 := (HZ.out.1.below H4.out HZ.out.1.lt).sev7 (.int .i64 (g 0)) (.int .i64 (g 1)) (.int .i64 (g 2)) (.int .i64 (g 3 - 1)) (.int .i64 (g 4)) (.int .i64 (g 5)) (.string x)
            have hb7 := below_sev7 (bthen HZ.out.2.1 H4.out) (Nat.le_refl w.heap.size) (.int .i64 (g 0)) (.int .i64 (g 1)) (.int .i64 (g 2)) (.int .i64 (g 3 - 1)) (.int .i64 (g 4)) (.int .i64 (g 5)) (.string x)
            unfold sev7 at g7 hb7
            generalize ((((((w4.setCell ⟨w.heap.size, 0, none⟩ (.int .i64 (g 0))).setCell ⟨w.heap.size, 1, none⟩ (.int .i64 (g 1))).setCell ⟨w.heap.size, 2, none⟩ (.int .i64 (g 2))).setCell ⟨w.heap.size, 3, none⟩ (.int .i64 (g 3 - 1))).setCell ⟨w.heap.size, 4, none⟩ (.int .i64 (g 4))).setCell ⟨w.heap.size, 5, none⟩ (.int .i64 (g 5))).setCell ⟨w.heap.size, 6, none⟩ (.string x) = w7 at *
            obtain ⟨⟨q0, q1, q2, q3, q4, q5, q6⟩, -⟩ := g7.all7
            refine bodyPost_ret (v := .tuple #[.agg #[.int .i64 (g 0), .int .i64 (g 1), .int .i64 (g 2), .int .i64 (g 3 - 1), .int .i64 (g 4), .int .i64 (g 5), .string x], .int .i64 0]) (by simp [results, Tryz.results35, go_sem, q0, q1, q2, q3, q4, q5, q6]) rfl ⟨hb7, ?_⟩
            rw [HN.out]
            rfl
        · have HN := hide (show decM s = none by rw [HA2.out, if_neg (fun h => hm h.1)])
          have hmi : ¬ ((m : Int) = (s.size : Int)) := by omega
          obtain ⟨⟨z0, z1, z2, z3, z4, z5, z6⟩, y0, y1, y2, y3, y4, y5, y6⟩ := HZ.out.1.all7
          have hz2 := HZ.out.1.lt
          clear hm r0 r1 r2 r3 r4 r5 r6
          go_wp2_with fail
          have g7 := (HZ.out.1).sev7 (.int .i64 0) (.int .i64 0) (.int .i64 0) (.int .i64 0) (.int .i64 0) (.int .i64 0) (.string ⟨#[]⟩)
          have hb7 := below_sev7 (HZ.out.2.1) (Nat.le_refl w.heap.size) (.int .i64 0) (.int .i64 0) (.int .i64 0) (.int .i64 0) (.int .i64 0) (.int .i64 0) (.string ⟨#[]⟩)
          unfold sev7 at g7 hb7
          generalize ((((((w3.setCell ⟨w.heap.size, 0, none⟩ (.int .i64 0)).setCell ⟨w.heap.size, 1, none⟩ (.int .i64 0)).setCell ⟨w.heap.size, 2, none⟩ (.int .i64 0)).setCell ⟨w.heap.size, 3, none⟩ (.int .i64 0)).setCell ⟨w.heap.size, 4, none⟩ (.int .i64 0)).setCell ⟨w.heap.size, 5, none⟩ (.int .i64 0)).setCell ⟨w.heap.size, 6, none⟩ (.string ⟨#[]⟩) = w7 at *
          obtain ⟨⟨q0, q1, q2, q3, q4, q5, q6⟩, -⟩ := g7.all7
          refine bodyPost_ret (v := .tuple #[.agg #[.int .i64 0, .int .i64 0, .int .i64 0, .int .i64 0, .int .i64 0, .int .i64 0, .string ⟨#[]⟩], .int .i64 350]) (by simp [results, Tryz.results35, go_sem, q0, q1, q2, q3, q4, q5, q6]) rfl ⟨hb7, ?_⟩
          rw [HN.out]
          rfl
end Go.Proofs.YtcfbgelhggapjaaGreatDoor
/- Replica: the laws' helpers keeps, of, texts. -/
namespace Go.Proofs.YtcfbgelhggapjaaGreatDoor
open Go.RowKit Go.Shelf
/-- a list has all records of another one -/
def kpB (l k : List Rc) : Bool := k.all (fun r => decide (fdR (keyR r) l = some r))
theorem kp_of {l k : List Rc} (h : ∀ r ∈ k, fdR (keyR r) l = some r) : kpB l k = true := by
  unfold kpB
  rw [List.all_eq_true]
  intro r hr
  exact decide_eq_true (h r hr)
theorem kp_no {l k : List Rc} {r : Rc} (hr : r ∈ k) (h : fdR (keyR r) l ≠ some r) : kpB l k = false := by
  cases hq : kpB l k with
  | false => rfl
  | true =>
    unfold kpB at hq
    rw [List.all_eq_true] at hq
    exact absurd (of_decide_eq_true (hq r hr)) h
theorem kp_iff {l k : List Rc} (h : (l.map keyR).Nodup) : kpB l k = true ↔ ∀ r ∈ k, r ∈ l := by
  unfold kpB
  rw [List.all_eq_true]
  constructor
  · intro g r hr; exact (fd_some (of_decide_eq_true (g r hr))).1
  · intro g r hr; exact decide_eq_true (fd_mem h (g r hr))
set_option linter.unusedSimpArgs false in
set_option maxRecDepth 100000 in
set_option maxHeartbeats 8000000 in
theorem c_lkeeps (A : Option Addr) (N c : Nat) (l : List Rc) (B : Option Addr) (M d : Nat) (k : List Rc) (w : World) (hN : N ≤ 9223372036854775807) (hM : M ≤ 9223372036854775807) (hr : SlR w w.heap.size 7 A N (l.flatMap cR)) (hs : SlR w w.heap.size 7 B M (k.flatMap cR)) :
    Calls Tryz.prog 37 #[.slice A N c, .slice B M d] w fun e w' => e = .returned (.bool (kpB l k)) ∧ Below w.heap.size w w' := by
  have HL := hide (And.intro hr.lenR hs.lenR)
  have HR : Hid (∀ W, Below w.heap.size w W → SlR W W.heap.size 7 A N (l.flatMap cR) ∧ SlR W W.heap.size 7 B M (k.flatMap cR)) := hide (fun W h => ⟨hr.to' h, hs.to' h⟩)
  clear hr hs
  go_enter Tryz.func37, Tryz.ntmps37
  go_wp2
  go_loopw [5] (fun i wr => ∃ j : Nat, j ≤ M ∧ i = .int .i64 j ∧ Hid (∀ r ∈ k.take j, fdR (keyR r) l = some r) ∧ Below w.heap.size w wr) (fun i _ => M - (intOf i).toNat)
  case atStart => exact ⟨0, Nat.zero_le _, rfl, hide (fun r hr => by simp at hr), Below.refl _ _⟩
  case round =>
    obtain ⟨j, hj, rfl, hok, hb⟩ := hrel
    obtain ⟨hsl, hsm⟩ := HR.out wr hb
    by_cases hlt : j < M
    · have hjk : j < k.length := by have := HL.out.2; omega
      have hji : (j : Int) < (M : Int) := by omega
      obtain ⟨b', off, rfl, hbb⟩ := hsm.some_of (by omega)
      obtain ⟨z0, z1, z2, z3, z4, z5, z6⟩ := hsm.bwR hjk
      have hcF : ∀ x : BW wr, Calls Tryz.prog 38 #[.slice A N c, .int .i64 (k[j]'hjk).pen, .int .i64 (k[j]'hjk).num] x.val fun e w' => e = .returned (.int .i64 (fdI (keyR (k[j]'hjk)) l)) ∧ x.val = w' := fun x => c_rFind A N c l _ _ x.val hN (hsl.to' x.ok)
      have HTK := hide (List.take_succ_eq_append_getElem hjk)
      have HMem := hide (List.getElem_mem hjk)
      have HOk := hide hok
      have HB := hide hb
      have HC := hide (fun (W : World) (h : Below wr.heap.size wr W) => (hsm.cellsR h hjk).2)
      have HK0 := hide (fdI_cases (keyR (k[j]'hjk)) l)
      generalize k[j]'hjk = r at *
      clear hok hb hsl hsm
      go_wp2_with fail
      refine wp_region_bw wr (Below.refl _ _) (by kernel_rfl) (by kernel_rfl) ?_
      repeat (go_big_quiet_step ((go_at_call 38; exact bw_same (hcF _))))
      refine wpQuiet_nil ?_
      intro W3 hb3
      have h3 := bthen HB.out hb3
      obtain ⟨hsl, hsm⟩ := HR.out W3 h3
      have HB3 := hide h3
      rcases HK0.out with ⟨g1, g2⟩ | ⟨i, hi, g0, g1, g2⟩
      · rw [g2]
        have HQ := hide (kp_no (l := l) HMem.out (by rw [g1]; simp))
        clear g1 g2 hcF z0 z1 z2 z3 z4 z5 z6 hsl hsm h3
        go_wp2_with fail
        go_ret
        exact ⟨by rw [HQ.out] <;> rfl, HB3.out⟩
      · have hiN : i < N := by have := HL.out.1; omega
        rw [g2]
        obtain ⟨ba, offa, rfl, hba⟩ := hsl.some_of (by omega)
        obtain ⟨a0, a1, a2, a3, a4, a5, a6⟩ := hsl.bwR hi
        have hii : (i : Int) < (N : Int) := by omega
        have hiz : ¬ ((i : Int) < 0) := by omega
        have c0 := fun x : BW W3 => (HC.out x.val (bthen hb3 x.ok)).1
        have c1 := fun x : BW W3 => (HC.out x.val (bthen hb3 x.ok)).2.1
        have c2 := fun x : BW W3 => (HC.out x.val (bthen hb3 x.ok)).2.2.1
        have c3 := fun x : BW W3 => (HC.out x.val (bthen hb3 x.ok)).2.2.2.1
        have c4 := fun x : BW W3 => (HC.out x.val (bthen hb3 x.ok)).2.2.2.2.1
        have c5 := fun x : BW W3 => (HC.out x.val (bthen hb3 x.ok)).2.2.2.2.2.1
        have c6 := fun x : BW W3 => (HC.out x.val (bthen hb3 x.ok)).2.2.2.2.2.2
        have HG1 := hide g1
        have hbb3 : b' < W3.heap.size := Nat.lt_of_lt_of_le hbb hb3.size
        clear g0 g1 g2 hsl hsm h3 hb3 z0 z1 z2 z3 z4 z5 z6 hcF
        have hneq := fun w => neqRc w (l[i]'hi) r
        generalize l[i]'hi = x at *
        obtain ⟨xp, xn, xt, xo, xw, xk, xx⟩ := x
        obtain ⟨rp, rn, rt, ro, rw', rk, rx⟩ := r
        unfold rcV at hneq
        dsimp only at a0 a1 a2 a3 a4 a5 a6 c0 c1 c2 c3 c4 c5 c6 hneq
        by_cases hxr : (⟨xp, xn, xt, xo, xw, xk, xx⟩ : Rc) = ⟨rp, rn, rt, ro, rw', rk, rx⟩
        · have HX := hide hxr
          have hq : ∀ w, (binOp .neq 49 (.agg #[.int .i64 xp, .int .i64 xn, .int .i64 xt, .int .i64 xo, .int .i64 xw, .int .i64 xk, .string xx]) (.agg #[.int .i64 rp, .int .i64 rn, .int .i64 rt, .int .i64 ro, .int .i64 rw', .int .i64 rk, .string rx])).run Tryz.prog w = .ok (.bool false) w := fun w => by rw [hneq w, decide_eq_true hxr]; rfl
          clear hneq hxr
          go_wp2_with fail
          refine wp_region_bw W3 (Below.refl _ _) (by kernel_rfl) (by kernel_rfl) ?_
          repeat (go_big_quiet_step (fail))
          refine wpQuiet_nil ?_
          intro W4 hb4
          go_wp2_with fail
          have HOK1 : Hid (∀ s ∈ k.take (j + 1), fdR (keyR s) l = some s) := hide (fun s hs => by
            rw [HTK.out] at hs
            rcases List.mem_append.1 hs with hs | hs
            · exact HOk.out.out s hs
            · rw [List.mem_singleton] at hs
              rw [hs, HG1.out, HX.out])
          have hw1 : wrap64 ((j : Int) + 1) = ((j + 1 : Nat) : Int) := (Go.IntWalk.wrap64_in _ (by omega)).trans rfl
          try rw [hw1]
          clear hw1
          refine ⟨⟨j + 1, hlt, rfl, HOK1, bthen HB3.out hb4⟩, ?_⟩
          show M - ((j : Int) + 1).toNat < M - ((j : Nat) : Int).toNat
          omega
        · have HX := hide hxr
          have hq : ∀ w, (binOp .neq 49 (.agg #[.int .i64 xp, .int .i64 xn, .int .i64 xt, .int .i64 xo, .int .i64 xw, .int .i64 xk, .string xx]) (.agg #[.int .i64 rp, .int .i64 rn, .int .i64 rt, .int .i64 ro, .int .i64 rw', .int .i64 rk, .string rx])).run Tryz.prog w = .ok (.bool true) w := fun w => by rw [hneq w, decide_eq_false hxr]; rfl
          clear hneq hxr
          go_wp2_with fail
          refine wp_region_bw W3 (Below.refl _ _) (by kernel_rfl) (by kernel_rfl) ?_
          repeat (go_big_quiet_step (fail))
          refine wpQuiet_nil ?_
          intro W4 hb4
          go_wp2_with fail
          go_ret
          have HQ := kp_no (l := l) HMem.out (fun e => HX.out (Option.some.inj (HG1.out.symm.trans e)))
          exact ⟨by rw [HQ] <;> rfl, bthen HB3.out hb4⟩
    · obtain rfl : j = M := by omega
      have hkt : k.take j = k := by rw [← HL.out.2, List.take_length]
      rw [hkt] at hok
      have HQ := hide (kp_of hok.out)
      clear hok hkt hsl hsm
      go_wp2
      go_ret
      exact ⟨by rw [HQ.out] <;> rfl, hb⟩
/-- the record that one corrects -/
def ofR (l : List Rc) (r : Rc) : Rc := (fdR (tgt r) l).getD ⟨0, 0, 0, 0, 0, 0, ⟨#[]⟩⟩
set_option linter.unusedSimpArgs false in
set_option maxRecDepth 100000 in
set_option maxHeartbeats 8000000 in
theorem c_lof (A : Option Addr) (N c : Nat) (l : List Rc) (r : Rc) (w : World) (hN : N ≤ 9223372036854775807) (hr : SlR w w.heap.size 7 A N (l.flatMap cR)) :
    Calls Tryz.prog 40 #[.slice A N c, rcV r] w fun e w' => e = .returned (rcV (ofR l r)) ∧ Below w.heap.size w w' := by
  have HL := hide hr.lenR
  obtain ⟨rp, rn, rt, ro, rw', rk, rx⟩ := r
  have hX := Blk.new w 49 [.int .i64 rp, .int .i64 rn, .int .i64 rt, .int .i64 ro, .int .i64 rw', .int .i64 rk, .string rx]
  have hb0 := balloc (balloc (Below.refl w.heap.size w) (.cells #[.int .i64 rp, .int .i64 rn, .int .i64 rt, .int .i64 ro, .int .i64 rw', .int .i64 rk, .string rx] 49)) (.cells zC.toArray 49)
  have gZ : Blk ((w.alloc (.cells #[.int .i64 rp, .int .i64 rn, .int .i64 rt, .int .i64 ro, .int .i64 rw', .int .i64 rk, .string rx] 49)).alloc (.cells zC.toArray 49)) (w.heap.size + 1) 49 zC := by
    have := Blk.new (w.alloc (.cells #[.int .i64 rp, .int .i64 rn, .int .i64 rt, .int .i64 ro, .int .i64 rw', .int .i64 rk, .string rx] 49)) 49 zC
    rw [show (w.alloc (.cells #[.int .i64 rp, .int .i64 rn, .int .i64 rt, .int .i64 ro, .int .i64 rw', .int .i64 rk, .string rx] 49)).heap.size = w.heap.size + 1 from by simp] at this
    exact this
  have hcF := c_rFind A N c l ro rw' _ hN (hr.to' hb0)
  have hsl := hr.to' hb0
  have hX2 := hX.alloc (.cells zC.toArray 49)
  obtain ⟨w0, hw0⟩ : ∃ w0, (w.alloc (.cells #[.int .i64 rp, .int .i64 rn, .int .i64 rt, .int .i64 ro, .int .i64 rw', .int .i64 rk, .string rx] 49)).alloc (.cells zC.toArray 49) = w0 := ⟨_, rfl⟩
  rw [hw0] at hb0 gZ hcF hsl hX2
  unfold zC at hw0
  have HW0 := hide hw0
  obtain ⟨⟨x0, x1, x2, x3, x4, x5, x6⟩, -⟩ := hX2.all7
  obtain ⟨⟨z0, z1, z2, z3, z4, z5, z6⟩, y0, y1, y2, y3, y4, y5, y6⟩ := gZ.all7
  have hz2 := gZ.lt
  have HG := hide (And.intro gZ hb0)
  clear hX hX2 hw0 gZ hb0
  rcases fdI_cases (ro, rw') l with ⟨g1, g2⟩ | ⟨i, hi, g0, g1, g2⟩
  · rw [g2] at hcF
    have HN : Hid (ofR l ⟨rp, rn, rt, ro, rw', rk, rx⟩ = ⟨0, 0, 0, 0, 0, 0, ⟨#[]⟩⟩) := hide (by unfold ofR; rw [show tgt ⟨rp, rn, rt, ro, rw', rk, rx⟩ = (ro, rw') from rfl, g1]; rfl)
    clear g1 g2 hsl hr
    unfold rcV
    dsimp only
    go_enter Tryz.func40, Tryz.ntmps40
    go_upto_region 3 with (go_at_call 38; rw [HW0.out]; refine hcF.mono ?_; clear hcF; rintro e w1 ⟨rfl, rfl⟩)
    try rw [HW0.out]
    go_wp2_with fail
    have g7 := HG.out.1.sev7 (.int .i64 0) (.int .i64 0) (.int .i64 0) (.int .i64 0) (.int .i64 0) (.int .i64 0) (.string ⟨#[]⟩)
    have hb7 := below_sev7 HG.out.2 (Nat.le_succ w.heap.size) (.int .i64 0) (.int .i64 0) (.int .i64 0) (.int .i64 0) (.int .i64 0) (.int .i64 0) (.string ⟨#[]⟩)
    unfold sev7 at g7 hb7
    generalize ((((((w0.setCell ⟨w.heap.size + 1, 0, none⟩ (.int .i64 0)).setCell ⟨w.heap.size + 1, 1, none⟩ (.int .i64 0)).setCell ⟨w.heap.size + 1, 2, none⟩ (.int .i64 0)).setCell ⟨w.heap.size + 1, 3, none⟩ (.int .i64 0)).setCell ⟨w.heap.size + 1, 4, none⟩ (.int .i64 0)).setCell ⟨w.heap.size + 1, 5, none⟩ (.int .i64 0)).setCell ⟨w.heap.size + 1, 6, none⟩ (.string ⟨#[]⟩) = w7 at *
    obtain ⟨⟨q0, q1, q2, q3, q4, q5, q6⟩, -⟩ := g7.all7
    refine bodyPost_ret (v := .agg #[.int .i64 0, .int .i64 0, .int .i64 0, .int .i64 0, .int .i64 0, .int .i64 0, .string ⟨#[]⟩]) (by simp [results, Tryz.results40, go_sem, q0, q1, q2, q3, q4, q5, q6]) rfl ⟨?_, hb7⟩
    rw [HN.out]
  · rw [g2] at hcF
    have HN : Hid (ofR l ⟨rp, rn, rt, ro, rw', rk, rx⟩ = l[i]) := hide (by unfold ofR; rw [show tgt ⟨rp, rn, rt, ro, rw', rk, rx⟩ = (ro, rw') from rfl, g1]; rfl)
    have hiN : i < N := by have := HL.out; omega
    have hii : (i : Int) < (N : Int) := by omega
    have hiz : ¬ ((i : Int) < 0) := by omega
    obtain ⟨b, off, rfl, hbb⟩ := hsl.some_of (by omega)
    obtain ⟨-, v0, v1, v2, v3, v4, v5, v6⟩ := hsl.cellsR (Below.refl _ _) hi
    clear g0 g1 g2 hsl hr
    generalize l[i] = u at *
    obtain ⟨up, un, ut, uo, uw, uk, ux⟩ := u
    dsimp only at v0 v1 v2 v3 v4 v5 v6
    unfold rcV
    dsimp only
    go_enter Tryz.func40, Tryz.ntmps40
    go_upto_region 4 with (go_at_call 38; rw [HW0.out]; refine hcF.mono ?_; clear hcF; rintro e w1 ⟨rfl, rfl⟩)
    try rw [HW0.out]
    go_wp2_with fail
    have g7 := HG.out.1.sev7 (.int .i64 up) (.int .i64 un) (.int .i64 ut) (.int .i64 uo) (.int .i64 uw) (.int .i64 uk) (.string ux)
    have hb7 := below_sev7 HG.out.2 (Nat.le_succ w.heap.size) (.int .i64 up) (.int .i64 un) (.int .i64 ut) (.int .i64 uo) (.int .i64 uw) (.int .i64 uk) (.string ux)
    unfold sev7 at g7 hb7
    generalize ((((((w0.setCell ⟨w.heap.size + 1, 0, none⟩ (.int .i64 up)).setCell ⟨w.heap.size + 1, 1, none⟩ (.int .i64 un)).setCell ⟨w.heap.size + 1, 2, none⟩ (.int .i64 ut)).setCell ⟨w.heap.size + 1, 3, none⟩ (.int .i64 uo)).setCell ⟨w.heap.size + 1, 4, none⟩ (.int .i64 uw)).setCell ⟨w.heap.size + 1, 5, none⟩ (.int .i64 uk)).setCell ⟨w.heap.size + 1, 6, none⟩ (.string ux) = w7 at *
    obtain ⟨⟨q0, q1, q2, q3, q4, q5, q6⟩, -⟩ := g7.all7
    refine bodyPost_ret (v := .agg #[.int .i64 up, .int .i64 un, .int .i64 ut, .int .i64 uo, .int .i64 uw, .int .i64 uk, .string ux]) (by simp [results, Tryz.results40, go_sem, q0, q1, q2, q3, q4, q5, q6]) rfl ⟨?_, hb7⟩
    rw [HN.out]
end Go.Proofs.YtcfbgelhggapjaaGreatDoor
