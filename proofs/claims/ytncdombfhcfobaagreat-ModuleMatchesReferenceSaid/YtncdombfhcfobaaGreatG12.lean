/- Contract: the reference's grown. -/
import Derived.Test.YtncdombfhcfobaaGreatG11b
namespace Go.Proofs.YtncdombfhcfobaaGreat
open Go.RowKit Go.Shelf
def RgPost (n0 : Nat) (ms : List Mo) (f : Nat) (items : List It) (path : List Int) (x y : Int) (pre : List Yi) (w : World) (e : Ending) (w' : World) : Prop :=
  Kee n0 n0 w w' ∧ ((expOk (pre.map ofY ++ plc ms f items path x y) = false ∧ e = .returned (.tuple #[.slice none 0 0, .int .i64 (-1)])) ∨
    (expOk (pre.map ofY ++ plc ms f items path x y) = true ∧ ∃ ys v', e = .returned (.tuple #[v', .int .i64 ((pre ++ ys).length : Nat)]) ∧ ys.map ofY = plc ms f items path x y ∧ (∀ u ∈ ys, GY n0 u w') ∧
      w'.ownsRow n0 75 4 v' (outs (pre ++ ys)).length ((outs (pre ++ ys)).flatMap cP)))
/-- what grown answers at so many levels -/
def RgAt (f : Nat) : Prop := ∀ (n0 N cc : Nat) (A : Option Addr) (rows : List MR) (ms : List Mo) (items : List It) (path : List Int) (x y : Int) (Ai Ap : Option Addr) (ni ci np cp : Nat) (pre : List Yi) (v : Value) (w : World),
  validB ms = true → N ≤ 9223372036854775807 → n0 ≤ w.heap.size → SlR w n0 2 A N (rows.flatMap cM) → ModK n0 w rows ms →
  (∀ s ∈ items, itOk s = true ∧ (s.kind = 2 → (findM ms s.mod).isSome = true)) → Dp ms f items → (0 ≤ x ∧ x ≤ 4095 ∧ 0 ≤ y ∧ y ≤ 4095) → (1 ≤ path.length ∧ path.length + f ≤ 100) →
  RdK n0 n0 w 6 Ai ni (items.flatMap cI) → ni ≤ 9223372036854775807 → RdK n0 n0 w 1 Ap np (path.flatMap cN) → expOk (pre.map ofY) = true → w.ownsRow n0 75 4 v (outs pre).length ((outs pre).flatMap cP) →
  Calls Tryz.prog 64 #[v, .slice A N cc, .slice Ai ni ci, .slice Ap np cp, .agg #[.int .i64 x, .int .i64 y], .int .i64 (pre.length : Nat)] w (RgPost n0 ms f items path x y pre w)
/-- between two rounds -/
def GrRel (n0 : Nat) (ms : List Mo) (f : Nat) (items : List It) (path : List Int) (x y : Int) (pre : List Yi) (w0 : World) (k : Nat) (v0 v5 : Value) (W : World) : Prop :=
  Kee n0 n0 w0 W ∧ n0 ≤ W.heap.size ∧ ((∃ ys, v5 = .int .i64 ((pre ++ ys).length : Nat) ∧ ys.map ofY = plc ms (f + 1) (items.take k) path x y ∧ expOk ((pre ++ ys).map ofY) = true ∧ (∀ u ∈ ys, GY n0 u W) ∧
      W.ownsRow n0 75 4 v0 (outs (pre ++ ys)).length ((outs (pre ++ ys)).flatMap cP)) ∨
    (v0 = .slice none 0 0 ∧ v5 = .int .i64 (-1) ∧ expOk (pre.map ofY ++ plc ms (f + 1) items path x y) = false))
/-- what the inner call leaves -/
def GrCut (n0 : Nat) (pre : List Yi) (sub : List (Pl × Int)) (w5 : World) (v0 v5 : Value) (wx : World) : Prop :=
  Kee n0 n0 w5 wx ∧ ((v0 = .slice none 0 0 ∧ v5 = .int .i64 (-1) ∧ expOk (pre.map ofY ++ sub) = false) ∨
    (expOk (pre.map ofY ++ sub) = true ∧ ∃ zs, v5 = .int .i64 ((pre ++ zs).length : Nat) ∧ zs.map ofY = sub ∧ (∀ u ∈ zs, GY n0 u wx) ∧ wx.ownsRow n0 75 4 v0 (outs (pre ++ zs)).length ((outs (pre ++ zs)).flatMap cP)))
theorem GY.kee {n0 n1 : Nat} {A B : World} {u : Yi} (h : GY n1 u A) (hK : Kee n0 n1 A B) : GY n1 u B := ⟨own_kee h.1 hK (Nat.le_refl _), h.2⟩
theorem expOk_pre {P Q : List (Pl × Int)} (h : expOk P = false) : expOk (P ++ Q) = false := by
  unfold expOk at *
  rw [Bool.and_eq_false_iff] at *
  rcases h with h | h
  · left
    simp only [decide_eq_false_iff_not, List.length_append] at *
    omega
  · right
    rw [List.all_append, h, Bool.false_and]
theorem expOk_one {P : List (Pl × Int)} (h : expOk P = true) (q : Pl × Int) : expOk (P ++ [q]) = (decide (P.length < 200) && plB q.1.x q.1.y) := by
  unfold expOk at *
  simp only [Bool.and_eq_true, decide_eq_true_eq] at h
  rw [List.all_append, h.2, Bool.true_and, List.length_append]
  simp only [List.all_cons, List.all_nil, Bool.and_true, List.length_cons, List.length_nil]
  rw [show decide (P.length + (0 + 1) ≤ 200) = decide (P.length < 200) from decide_eq_decide.2 (by omega)]
theorem expOk_len {P : List (Pl × Int)} (h : expOk P = true) : P.length ≤ 200 := by
  unfold expOk at h
  simp only [Bool.and_eq_true, decide_eq_true_eq] at h
  exact h.1
/-- what the k-th item adds -/
theorem plc_step (ms : List Mo) (f : Nat) {items : List It} {k : Nat} (hk : k < items.length) (path : List Int) (x y : Int) :
    plc ms (f + 1) (items.take (k + 1)) path x y = plc ms (f + 1) (items.take k) path x y ++ ((⟨path ++ [items[k].id], x + items[k].x, y + items[k].y, items[k].text⟩, items[k].kind) :: plc ms f (itemsOf ms items[k].mod) (path ++ [items[k].id]) (x + items[k].x) (y + items[k].y)) := by
  rw [List.take_succ_eq_append_getElem hk]
  simp only [plc, List.flatMap_append, List.flatMap_cons, List.flatMap_nil, List.append_nil]
theorem itemsOf_zero {ms : List Mo} (hv : validB ms = true) : itemsOf ms 0 = [] := by
  unfold itemsOf
  cases h : findM ms 0 with
  | none => rfl
  | some m =>
    obtain ⟨h1, h2⟩ := findM_mem h
    have := ((valid_parts hv).2.2.1 m h1).1
    omega
theorem itOk_cases {s : It} (h : itOk s = true) : (0 ≤ s.x ∧ s.x ≤ 4095 ∧ 0 ≤ s.y ∧ s.y ≤ 4095) ∧ (s.kind = 1 ∧ s.mod = 0 ∨ s.kind = 2) := by
  unfold itOk at h
  simp only [Bool.and_eq_true, Bool.or_eq_true, inB_iff, decide_eq_true_eq] at h
  refine ⟨⟨h.1.1.1, h.1.1.2, h.1.2.1, h.1.2.2⟩, ?_⟩
  rcases h.2 with h | h
  · exact .inl ⟨h.1.1, h.2⟩
  · exact .inr h.1.1
theorem knownB_parts {ms : List Mo} {l : List It} (h : knownB ms l = true) : ∀ s ∈ l, s.kind = 2 → (findM ms s.mod).isSome = true := by
  intro s hs hk
  unfold knownB at h
  rw [List.all_eq_true] at h
  have := h s hs
  unfold inItem at this
  simpa [hk] using this
theorem mod_items {ms : List Mo} (hv : validB ms = true) (n : Int) : ∀ s ∈ itemsOf ms n, itOk s = true ∧ (s.kind = 2 → (findM ms s.mod).isSome = true) := by
  intro s hs
  unfold itemsOf at hs
  cases h : findM ms n with
  | none => rw [h] at hs; cases hs
  | some m =>
    rw [h] at hs
    obtain ⟨h1, h2⟩ := findM_mem h
    obtain ⟨-, h3, h4⟩ := (valid_parts hv).2.2.1 m h1
    refine ⟨(itsOk_parts h3).2.2.2 s hs, fun hk => ?_⟩
    have := (knownB_parts h4) s hs hk
    exact this
theorem rg_zero : RgAt 0 := by
  intro n0 N cc A rows ms items path x y Ai Ap ni ci np cp pre v w hv hN hn0 hr hmk hit hdp hxy hpl hri hni hrp hok hown
  obtain rfl : items = [] := hdp
  have hli := hri.1.lenI
  simp only [List.length_nil] at hli
  subst hli
  have hlen := expOk_len hok
  rw [List.length_map] at hlen
  have hlz : (0 : Int) ≤ (pre.length : Nat) := by omega
  have hlu : ((pre.length : Nat) : Int) ≤ 200 := by omega
  have hge : decide ((0 : Int) ≤ (pre.length : Nat)) = true := by simp
  have hb0 := balloc (Below.refl w.heap.size w) (.cells #[.int .i64 x, .int .i64 y] 25)
  have HF := hide (show RgPost n0 ms 0 [] path x y pre w (.returned (.tuple #[v, .int .i64 (pre.length : Nat)])) (w.alloc (.cells #[.int .i64 x, .int .i64 y] 25)) from
    ⟨Kee.of_below hn0 hb0, .inr ⟨by show expOk (pre.map ofY ++ []) = true; rw [List.append_nil]; exact hok, [], v, by rw [List.append_nil], rfl, (fun u hu => by cases hu), by rw [List.append_nil]; exact own_bel hown hb0⟩⟩)
  clear hv hN hn0 hr hmk hit hxy hpl hri hni hrp hok hown hb0
  generalize pre.length = m at *
  go_enter Tryz.func64, Tryz.ntmps64
  go_wp2_with fail
  go_loop [0, 5, 14] (fun v0 v5 jv => v0 = v ∧ v5 = .int .i64 (m : Nat) ∧ jv = .int .i64 0) (fun _ _ _ => 0)
  case atStart => exact ⟨rfl, rfl, rfl⟩
  case round =>
    obtain ⟨rfl, rfl, rfl⟩ := hrel
    go_wp2_with fail
    go_ret2
    exact HF.out
set_option linter.unusedSimpArgs false in
set_option maxRecDepth 100000 in
set_option maxHeartbeats 8000000 in
theorem rg_step (f : Nat) (ih : RgAt f) : RgAt (f + 1) := by
  intro n0 N cc A rows ms items path x y Ai Ap ni ci np cp pre v w hv hN hn0 hr hmk hit hdp hxy hpl hri hni hrp hok hown
  obtain ⟨i1, hi1, hy0, hy1, hy2⟩ := info_parts Tryz.infoInt
  obtain ⟨i2, hi2, hx0, hx1, hx2⟩ := info_parts Tryz.infoPlaced
  have hlp := hrp.1.lenN
  have hli := hri.1.lenI
  have hb0 := balloc (Below.refl w.heap.size w) (.cells #[.int .i64 x, .int .i64 y] 25)
  have hk0 : Kee n0 n0 w (w.alloc (.cells #[.int .i64 x, .int .i64 y] 25)) := Kee.of_below hn0 hb0
  have gB0 : Blk (w.alloc (.cells #[.int .i64 x, .int .i64 y] 25)) w.heap.size 25 [.int .i64 x, .int .i64 y] := Blk.new w 25 [.int .i64 x, .int .i64 y]
  have HE : Hid (∀ W : World, Kee n0 n0 (w.alloc (.cells #[.int .i64 x, .int .i64 y] 25)) W → (Blk W w.heap.size 25 [.int .i64 x, .int .i64 y] ∧ SlR W n0 2 A N (rows.flatMap cM) ∧ ModK n0 W rows ms) ∧ (RdK n0 n0 W 6 Ai ni (items.flatMap cI) ∧ RdK n0 n0 W 1 Ap np (path.flatMap cN)) ∧ Kee n0 n0 w W) := hide fun W hK =>
    ⟨⟨gB0.kee hK hn0, (hr.below hk0.below).below hK.below, (hmk.below hk0.below).below hK.below⟩, ⟨(hri.kee hk0).kee hK, (hrp.kee hk0).kee hK⟩, hk0.trans hK⟩
  have hown0 := own_bel hown hb0
  have HV := hide (And.intro hv (And.intro hit hdp))
  have hn00 : n0 ≤ (w.alloc (.cells #[.int .i64 x, .int .i64 y] 25)).heap.size := Nat.le_trans hn0 hb0.size
  have hrel0 : GrRel n0 ms f items path x y pre (w.alloc (.cells #[.int .i64 x, .int .i64 y] 25)) 0 v (.int .i64 (pre.length : Nat)) (w.alloc (.cells #[.int .i64 x, .int .i64 y] 25)) :=
    ⟨Kee.refl _ _ _, hn00, .inl ⟨[], by rw [List.append_nil], by simp [plc], by rw [List.append_nil]; exact hok, (fun u hu => by cases hu), by rw [List.append_nil]; exact hown0⟩⟩
  have HR0 := hide hrel0
  have HP := hide (And.intro hlp hli)
  have hnp : 1 ≤ np := by omega
  have hnp' : np ≤ 100 := by omega
  have HPl := hide hpl
  obtain ⟨hx4, hx5, hy4, hy5⟩ := hxy
  have HN0 := hide hn0
  clear hv hr hmk hit hdp hpl hri hrp hok hown hb0 hk0 gB0 hown0 hrel0 hlp hli hn00 hn0
  generalize pre.length = m0 at *
  go_enter Tryz.func64, Tryz.ntmps64
  go_upto_region 1 with (fail)
  generalize w.alloc (.cells #[.int .i64 x, .int .i64 y] 25) = w0 at *
  generalize hbb : w.heap.size = bb at *
  have HBB := hide hbb
  clear hbb
  go_wp2_with fail
  go_loopw [0, 5, 14] (fun v0 v5 jv wr => ∃ k : Nat, k ≤ ni ∧ jv = .int .i64 k ∧ GrRel n0 ms f items path x y pre w0 k v0 v5 wr) (fun _ _ jv _ => ni - (intOf jv).toNat)
  case atStart => exact ⟨0, Nat.zero_le _, rfl, HR0.out⟩
  case round =>
    obtain ⟨k, hk, rfl, hK, hn0, hrel⟩ := hrel
    rcases hrel with ⟨ys, rfl, hys, hexp, hgy, hvo⟩ | ⟨rfl, rfl, hbad⟩
    · have hlen := expOk_len hexp
      rw [List.length_map] at hlen
      by_cases hlt : k < ni
      · have hkl : k < items.length := by rw [HP.out.2]; exact hlt
        obtain ⟨⟨gB, -, -⟩, ⟨hri, -⟩, -⟩ := HE.out _ hK
        obtain ⟨b, off, hAe, hbl, z0, z1, z2, z3, z4, z5⟩ := hri.1.atI (Below.refl _ _) hkl
        have hs0 := HV.out.2.1 items[k] (List.getElem_mem hkl)
        obtain ⟨⟨hs3, hs4, hs5, hs6⟩, hkind⟩ := itOk_cases hs0.1
        have HS2 := hide hs0.2
        have HSt := hide (plc_step ms f hkl path x y)
        have HTl := hide (plc_pre ms f items (k + 1) path x y)
        have HDp := hide (HV.out.2.2 items[k] (List.getElem_mem hkl))
        clear hs0 hri
        generalize items[k] = s at *
        have HT : Hid (∃ rest, pre.map ofY ++ plc ms (f + 1) items path x y = ((pre ++ ys).map ofY ++ [(⟨path ++ [s.id], x + s.x, y + s.y, s.text⟩, s.kind)]) ++ rest) := hide (by
          obtain ⟨t, ht⟩ := HTl.out
          refine ⟨plc ms f (itemsOf ms s.mod) (path ++ [s.id]) (x + s.x) (y + s.y) ++ t, ?_⟩
          rw [← ht, HSt.out, List.map_append, hys]
          simp only [List.append_assoc, List.cons_append, List.nil_append])
        have HNew : Hid (∀ zs : List Yi, zs.map ofY = (⟨path ++ [s.id], x + s.x, y + s.y, s.text⟩, s.kind) :: plc ms f (itemsOf ms s.mod) (path ++ [s.id]) (x + s.x) (y + s.y) → (ys ++ zs).map ofY = plc ms (f + 1) (items.take (k + 1)) path x y) := hide (fun zs hz => by
          rw [HSt.out, List.map_append, hys, hz])
        have HOne := hide (expOk_one hexp (⟨path ++ [s.id], x + s.x, y + s.y, s.text⟩, s.kind))
        have HSubs : Hid (expOk ((pre ++ ys).map ofY ++ [(⟨path ++ [s.id], x + s.x, y + s.y, s.text⟩, s.kind)] ++ plc ms f (itemsOf ms s.mod) (path ++ [s.id]) (x + s.x) (y + s.y)) = false → expOk (pre.map ofY ++ plc ms (f + 1) items path x y) = false) := hide (fun h => by
          obtain ⟨t, ht⟩ := HTl.out
          rw [← ht, HSt.out, ← hys]
          have := expOk_pre (Q := t) h
          simp only [List.map_append, List.append_assoc, List.cons_append, List.nil_append] at this ⊢
          exact this)
        have HBad := hide (show ∀ W : World, Kee n0 n0 w0 W → expOk ((pre ++ ys).map ofY ++ [(⟨path ++ [s.id], x + s.x, y + s.y, s.text⟩, s.kind)]) = false → RgPost n0 ms (f + 1) items path x y pre w (.returned (.tuple #[.slice none 0 0, .int .i64 (-1)])) W from fun W hKW hb => by
          obtain ⟨rest, hrest⟩ := HT.out
          exact ⟨(HE.out _ hKW).2.2, .inl ⟨by rw [hrest]; exact expOk_pre hb, rfl⟩⟩)
        obtain ⟨Av, cv, hAv, -, -, -⟩ := SlR.of_own hvo
        subst hAv
        have hol := outs_len (pre ++ ys)
        have HY := hide (And.intro hgy (And.intro hvo hK))
        have hml : (pre ++ ys).length ≤ 200 := hlen
        have HLe := hide (show ((pre ++ ys).map ofY).length = (pre ++ ys).length from List.length_map _)
        obtain ⟨x0, x1⟩ := gB.two
        have lB := gB.lt
        clear hys hexp hgy hvo hK HTl
        obtain ⟨m, hm⟩ : ∃ m, (pre ++ ys).length = m := ⟨_, rfl⟩
        have HM := hide hm
        rw [hm] at hml hol hlen
        rw [hm]
        clear hm
        have hmz : (0 : Int) ≤ (m : Nat) := by omega
        have hmu : ((m : Nat) : Int) ≤ 200 := by omega
        have hsx1 : 0 ≤ x + s.x := by omega
        have hsx2 : x + s.x ≤ 8190 := by omega
        have hsy1 : 0 ≤ y + s.y := by omega
        have hsy2 : y + s.y ≤ 8190 := by omega
        subst hAe
        have gX : Blk (wr.alloc (.cells #[.int .i64 s.id, .int .i64 s.kind, .int .i64 s.x, .int .i64 s.y, .string s.text, .int .i64 s.mod] 27)) wr.heap.size 27 (cI s) := Blk.new wr 27 (cI s)
        have gB2 := gB.alloc (.cells #[.int .i64 s.id, .int .i64 s.kind, .int .i64 s.x, .int .i64 s.y, .string s.text, .int .i64 s.mod] 27)
        have hb2 := balloc (Below.refl wr.heap.size wr) (.cells #[.int .i64 s.id, .int .i64 s.kind, .int .i64 s.x, .int .i64 s.y, .string s.text, .int .i64 s.mod] 27)
        go_upto_region 5 with (fail)
        have HB2 := hide hb2
        generalize wr.alloc (.cells #[.int .i64 s.id, .int .i64 s.kind, .int .i64 s.x, .int .i64 s.y, .string s.text, .int .i64 s.mod] 27) = w2 at *
        clear x0 x1 lB z0 z1 z2 z3 z4 z5 gB hb2 hbl
        have hb3 : Below wr.heap.size wr (w2.alloc (.cells #[.int .i64 (x + s.x), .int .i64 (y + s.y)] 25)) := balloc HB2.out _
        generalize hxb : wr.heap.size = xb at *
        obtain ⟨z0, z1, z2, z3, z4, z5⟩ := gX.allI
        obtain ⟨x0, x1⟩ := gB2.two
        have lB := gB2.lt
        have lX := gX.lt
        have gP : Blk (w2.alloc (.cells #[.int .i64 (x + s.x), .int .i64 (y + s.y)] 25)) w2.heap.size 25 [.int .i64 (x + s.x), .int .i64 (y + s.y)] := Blk.new w2 25 [.int .i64 (x + s.x), .int .i64 (y + s.y)]
        have gX3 := gX.alloc (.cells #[.int .i64 (x + s.x), .int .i64 (y + s.y)] 25)
        go_upto_region 6 with (fail)
        have HG3 := hide (And.intro gX3 (And.intro gP hb3))
        clear gX gX3 gP hb3 gB2 HB2
        generalize w2.alloc (.cells #[.int .i64 (x + s.x), .int .i64 (y + s.y)] 25) = w3 at *
        have hpx : xb ≤ w2.heap.size := by omega
        generalize hpb : w2.heap.size = pb at *
        have HPBk := hide hpx
        have HN0x := hide (show n0 ≤ xb from hn0)
        clear z0 z1 z2 z3 z4 z5 x0 x1 lB lX hpb hpx
        have hx30 : xb < w3.heap.size := HG3.out.1.lt
        have HXB := hide hxb
        clear hxb
        by_cases hm2 : m < 200
        · obtain ⟨q0, q1⟩ := HG3.out.2.1.two
          have lP := HG3.out.2.1.lt
          have hpl := c_rPlace (x + s.x) (y + s.y) w3
          have hm3 : decide ((200 : Int) < (m : Int) + 1) = false := by simp; omega
          go_wp2_with fail
          refine hpl.mono ?_
          clear hpl q0 q1 lP
          rintro e w4 ⟨rfl, hb4⟩
          have gX4 := HG3.out.1.below hb4 HG3.out.1.lt
          have gP4 := HG3.out.2.1.below hb4 HG3.out.2.1.lt
          have hb04 : Below xb wr w4 := HG3.out.2.2.trans (hb4.mono (by omega))
          have hk4 : Kee n0 n0 wr w4 := Kee.of_below (by rw [HXB.out]; exact hn0) (by rw [HXB.out]; exact hb04)
          cases hpb : plB (x + s.x) (y + s.y) with
          | false =>
            have HF := hide (HBad.out w4 (HY.out.2.2.trans hk4) (by rw [HOne.out]; show (_ && plB (x + s.x) (y + s.y)) = false; rw [hpb, Bool.and_false]))
            clear gX4 gP4 hb04 hk4 hb4 hpb
            go_wp2_with fail
            go_ret2
            exact HF.out
          | true =>
            have HE1 := hide (show expOk ((pre ++ ys).map ofY ++ [(⟨path ++ [s.id], x + s.x, y + s.y, s.text⟩, s.kind)]) = true by
              rw [HOne.out, HLe.out, HM.out]
              show (decide (m < 200) && plB (x + s.x) (y + s.y)) = true
              rw [hpb, Bool.and_true, decide_eq_true hm2])
            have HPB := hide hpb
            have hs4 : xb < w4.heap.size := gX4.lt
            have HX := hide (And.intro gX4 (And.intro gP4 hb04))
            have HK4 := hide (And.intro hk4 (show n0 ≤ w4.heap.size by omega))
            have hrp4 : SlR w4 w4.heap.size 1 Ap np (path.flatMap cN) := ((HE.out _ (HY.out.2.2.trans hk4)).2.1.2).1
            have HPS := hide hrp4
            clear gX4 gP4 hb04 hk4 hb4 hpb hrp4 HBad HOne
            have hm4 : ((m : Int) + 1) ≤ 200 := by omega
            go_upto_region 9 with (fail)
            go_cut [17] from 54 to 60 (fun v wx => ∃ Aq cq, v = .slice Aq (np + 1) cq ∧ wx.ownsRow w4.heap.size 3 1 v (np + 1) ((path ++ [s.id]).flatMap cN) ∧ Below w4.heap.size w4 wx)
            case first =>
              have HS := hide (fun (U : World) (h : Below w4.heap.size w4 U) => (show U.cell? ⟨xb, 0, none⟩ = some (.int .i64 s.id) from (HX.out.1.below h HX.out.1.lt).cell 0))
              refine wp_noexit ?_
              refine wp_region_held_drew (S := fun U => U.cell? ⟨xb, 0, none⟩ = some (.int .i64 s.id)) (by kernel_rfl) (HS.out _ (bdrew (Below.refl _ _))) (fun hHeld => ?_)
              refine wpAnyH_take (i := 1) (v := ?_) rfl (by kernel_rfl) (by kernel_rfl) (by kernel_rfl) (fun _ _ _ h => h) (Or.inl ⟨by rfl, ?hy1⟩) (by assumption) ?rs1
              case hy1 => (intro w hSw; (try dsimp only at hSw); go_simp; try (with_reducible rfl))
              (try simp only [Act.put, List.setIfInBounds_toArray, List.set_cons_zero, List.set_cons_succ, List.getElem_toArray, List.getElem_cons_zero, List.getElem_cons_succ])
              refine wpAnyH_take (i := 3) (v := ?_) rfl (by kernel_rfl) (by kernel_rfl) (by kernel_rfl) (fun _ _ _ h => h) (Or.inl ⟨by rfl, ?hy2⟩) (by assumption) ?rs2
              case hy2 => (intro w hSw; (try dsimp only at hSw); go_simp; try (with_reducible rfl))
              (try simp only [Act.put, List.setIfInBounds_toArray, List.set_cons_zero, List.set_cons_succ, List.getElem_toArray, List.getElem_cons_zero, List.getElem_cons_succ])
              refine wpAnyH_take (i := 4) (v := ?_) rfl (by kernel_rfl) (by kernel_rfl) (by kernel_rfl) (fun _ _ _ h => h) (Or.inl ⟨by rfl, ?hy3⟩) (by assumption) ?rs3
              case hy3 => (intro w hSw; (try dsimp only at hSw); go_simp; try (with_reducible rfl))
              (try simp only [Act.put, List.setIfInBounds_toArray, List.set_cons_zero, List.set_cons_succ, List.getElem_toArray, List.getElem_cons_zero, List.getElem_cons_succ])
              refine wpAnyH_ready (rs := [0, 5]) (by kernel_rfl) (by simp) ?_
              refine AllReadyH.cons rfl (fun K hK => ?_) ?_
              · go_simp
                refine hK.out _ _ (by exact (HS.out _ (bdrew (balloc (Below.refl _ _) _)))) (fun hHeld => ?_)
                clear hK K
                (try simp only [Act.put, List.setIfInBounds_toArray, List.set_cons_zero, List.set_cons_succ, List.getElem_toArray, List.getElem_cons_zero, List.getElem_cons_succ])
                have hq1 : Below w4.heap.size w4 ((w4.alloc (.cells #[] 3)).drew) := bdrew (balloc (Below.refl w4.heap.size w4) (.cells #[] 3))
                generalize (w4.alloc (.cells #[] 3)).drew = wq1 at *
                refine wpAnyH_ready (rs := [2, 5]) (by kernel_rfl) (by simp) ?_
                refine AllReadyH.cons (o := { dst := some 56, op := Op.call { callee := Callee.builtin Builtin.append, args := #[Operand.tmp 54, Operand.tmp 55], argTypes := #[30, 30] }, type := 30, pos := "ref.go:215", after := #[{ on := 0, ground := Ground.data }, { on := 1, ground := Ground.data }], guard := none }) rfl (fun K hK => ?_) ?_
                · refine step_append_fresh (size := 1) (by rfl) _ _ 30 (by rfl) w4.heap.size 3 i1 (.int .i64 0) 8 Tryz.underlying30 hi1 hy0 hy1 hy2 (by rfl) 0 [] (by rfl) (SlR.nil (w := w4) (B := w4.heap.size) (k := 1)) hq1 np cp (path.flatMap cN) (by rfl) HPS.out hq1 (by omega) (by unfold maxLen; omega) (by omega) hq1.size ?_
                  intro vq2 wq2 oq2 hgq
                  have hq2 : Below w4.heap.size w4 wq2 := bgrown hq1 hgq (fun j e => by cases e)
                  simp only [Nat.zero_add, List.nil_append] at oq2
                  clear hgq
                  refine hK.out _ _ (by exact (HS.out _ hq2)) (fun hHeld => ?_)
                  clear hK K
                  (try simp only [Act.put, List.setIfInBounds_toArray, List.set_cons_zero, List.set_cons_succ, List.getElem_toArray, List.getElem_cons_zero, List.getElem_cons_succ])
                  refine wpAnyH_ready (rs := [5]) (by kernel_rfl) (by simp) ?_
                  refine AllReadyH.cons rfl (fun K hK => ?_) ?_
                  · go_simp
                    refine hK.out _ _ (by exact (HS.out _ (balloc hq2 _))) (fun hHeld => ?_)
                    clear hK K
                    (try simp only [Act.put, List.setIfInBounds_toArray, List.set_cons_zero, List.set_cons_succ, List.getElem_toArray, List.getElem_cons_zero, List.getElem_cons_succ])
                    have hq3 : Below w4.heap.size w4 (wq2.alloc (.cells #[.int .i64 s.id] 3)) := balloc hq2 (.cells #[.int .i64 s.id] 3)
                    have gq3 : Blk (wq2.alloc (.cells #[.int .i64 s.id] 3)) wq2.heap.size 3 [.int .i64 s.id] := Blk.new wq2 3 [.int .i64 s.id]
                    have oq3 := own_bel oq2 (balloc (Below.refl wq2.heap.size wq2) (.cells #[.int .i64 s.id] 3))
                    generalize wq2.alloc (.cells #[.int .i64 s.id] 3) = wq3 at *
                    generalize wq2.heap.size = qb3 at *
                    refine wpAnyH_ready (rs := [6]) (by kernel_rfl) (by simp) ?_
                    refine AllReadyH.cons (o := { dst := some 60, op := Op.call { callee := Callee.builtin Builtin.append, args := #[Operand.tmp 56, Operand.tmp 59], argTypes := #[30, 30] }, type := 30, pos := "ref.go:215", after := #[{ on := 2, ground := Ground.data }, { on := 5, ground := Ground.data }, { on := 2, ground := Ground.chain }], guard := none }) rfl (fun K hK => ?_) ?_
                    · refine step_append_sl (size := 1) (by rfl) _ _ 30 (by rfl) w4.heap.size 3 i1 (.int .i64 0) 8 Tryz.underlying30 hi1 hy0 hy1 hy2 (by rfl) (by decide) vq2 np (path.flatMap cN) (by rfl) oq3 1 1 (cN s.id) (by rfl) (gq3.slr (n := 1) (k := 1) rfl) (Below.refl _ _) (fun u hu => oneN [s.id] u (by simpa using hu)) (by unfold maxLen; omega) (by omega) hq3.size ?_
                      intro vq4 wq4 oq4 hgq horq
                      have hq4 : Below w4.heap.size w4 wq4 := Below.grown hq3 hgq hq3.size (fun j e => (own_lt oq3 j e).1)
                      obtain ⟨Aq, cq, heq, -, -, -⟩ := SlR.of_own oq4
                      subst heq
                      have HO4 := hide (And.intro oq4 hq4)
                      clear hgq horq oq4 hq4
                      refine hK.out _ _ (by exact (HS.out _ HO4.out.2)) (fun hHeld => ?_)
                      clear hK K
                      (try simp only [Act.put, List.setIfInBounds_toArray, List.set_cons_zero, List.set_cons_succ, List.getElem_toArray, List.getElem_cons_zero, List.getElem_cons_succ])
                      refine wpAnyH_take (i := 7) (v := ?_) rfl (by kernel_rfl) (by kernel_rfl) (by kernel_rfl) (fun _ _ _ h => h) (Or.inl ⟨by rfl, ?hy4⟩) (by assumption) ?rs4
                      case hy4 => (intro w hSw; (try dsimp only at hSw); go_simp; try (with_reducible rfl))
                      (try simp only [Act.put, List.setIfInBounds_toArray, List.set_cons_zero, List.set_cons_succ, List.getElem_toArray, List.getElem_cons_zero, List.getElem_cons_succ])
                      refine wpAnyH_done (by kernel_rfl) ?_ _
                      go_wp2_with fail
                      go_meet
                      refine ⟨Aq, cq, rfl, ?_, HO4.out.2⟩
                      rw [flatN_snoc]
                      exact HO4.out.1
                    exact AllReadyH.nil
                  exact AllReadyH.nil
                refine AllReadyH.cons rfl (fun K hK => ?_) ?_
                · go_simp
                  refine hK.out _ _ (by exact (HS.out _ (balloc hq1 _))) (fun hHeld => ?_)
                  clear hK K
                  (try simp only [Act.put, List.setIfInBounds_toArray, List.set_cons_zero, List.set_cons_succ, List.getElem_toArray, List.getElem_cons_zero, List.getElem_cons_succ])
                  have hq5 : Below w4.heap.size w4 (wq1.alloc (.cells #[.int .i64 s.id] 3)) := balloc hq1 (.cells #[.int .i64 s.id] 3)
                  have gq5 : Blk (wq1.alloc (.cells #[.int .i64 s.id] 3)) wq1.heap.size 3 [.int .i64 s.id] := Blk.new wq1 3 [.int .i64 s.id]
                  generalize wq1.alloc (.cells #[.int .i64 s.id] 3) = wq5 at *
                  generalize wq1.heap.size = qb5 at *
                  refine wpAnyH_ready (rs := [2]) (by kernel_rfl) (by simp) ?_
                  refine AllReadyH.cons (o := { dst := some 56, op := Op.call { callee := Callee.builtin Builtin.append, args := #[Operand.tmp 54, Operand.tmp 55], argTypes := #[30, 30] }, type := 30, pos := "ref.go:215", after := #[{ on := 0, ground := Ground.data }, { on := 1, ground := Ground.data }], guard := none }) rfl (fun K hK => ?_) ?_
                  · refine step_append_fresh (size := 1) (by rfl) _ _ 30 (by rfl) w4.heap.size 3 i1 (.int .i64 0) 8 Tryz.underlying30 hi1 hy0 hy1 hy2 (by rfl) 0 [] (by rfl) (SlR.nil (w := w4) (B := w4.heap.size) (k := 1)) hq5 np cp (path.flatMap cN) (by rfl) HPS.out hq5 (by omega) (by unfold maxLen; omega) (by omega) hq5.size ?_
                    intro vq6 wq6 oq6 hgq
                    have hq6 : Below w4.heap.size w4 wq6 := bgrown hq5 hgq (fun j e => by cases e)
                    simp only [Nat.zero_add, List.nil_append] at oq6
                    have gq6 := gq5.grown hgq (by simp)
                    clear hgq
                    refine hK.out _ _ (by exact (HS.out _ hq6)) (fun hHeld => ?_)
                    clear hK K
                    (try simp only [Act.put, List.setIfInBounds_toArray, List.set_cons_zero, List.set_cons_succ, List.getElem_toArray, List.getElem_cons_zero, List.getElem_cons_succ])
                    refine wpAnyH_ready (rs := [6]) (by kernel_rfl) (by simp) ?_
                    refine AllReadyH.cons (o := { dst := some 60, op := Op.call { callee := Callee.builtin Builtin.append, args := #[Operand.tmp 56, Operand.tmp 59], argTypes := #[30, 30] }, type := 30, pos := "ref.go:215", after := #[{ on := 2, ground := Ground.data }, { on := 5, ground := Ground.data }, { on := 2, ground := Ground.chain }], guard := none }) rfl (fun K hK => ?_) ?_
                    · refine step_append_sl (size := 1) (by rfl) _ _ 30 (by rfl) w4.heap.size 3 i1 (.int .i64 0) 8 Tryz.underlying30 hi1 hy0 hy1 hy2 (by rfl) (by decide) vq6 np (path.flatMap cN) (by rfl) oq6 1 1 (cN s.id) (by rfl) (gq6.slr (n := 1) (k := 1) rfl) (Below.refl _ _) (fun u hu => oneN [s.id] u (by simpa using hu)) (by unfold maxLen; omega) (by omega) hq6.size ?_
                      intro vq7 wq7 oq7 hgq horq
                      have hq7 : Below w4.heap.size w4 wq7 := Below.grown hq6 hgq hq6.size (fun j e => (own_lt oq6 j e).1)
                      obtain ⟨Aq, cq, heq, -, -, -⟩ := SlR.of_own oq7
                      subst heq
                      have HO7 := hide (And.intro oq7 hq7)
                      clear hgq horq oq7 hq7
                      refine hK.out _ _ (by exact (HS.out _ HO7.out.2)) (fun hHeld => ?_)
                      clear hK K
                      (try simp only [Act.put, List.setIfInBounds_toArray, List.set_cons_zero, List.set_cons_succ, List.getElem_toArray, List.getElem_cons_zero, List.getElem_cons_succ])
                      refine wpAnyH_take (i := 7) (v := ?_) rfl (by kernel_rfl) (by kernel_rfl) (by kernel_rfl) (fun _ _ _ h => h) (Or.inl ⟨by rfl, ?hy5⟩) (by assumption) ?rs5
                      case hy5 => (intro w hSw; (try dsimp only at hSw); go_simp; try (with_reducible rfl))
                      (try simp only [Act.put, List.setIfInBounds_toArray, List.set_cons_zero, List.set_cons_succ, List.getElem_toArray, List.getElem_cons_zero, List.getElem_cons_succ])
                      refine wpAnyH_done (by kernel_rfl) ?_ _
                      go_wp2_with fail
                      go_meet
                      refine ⟨Aq, cq, rfl, ?_, HO7.out.2⟩
                      rw [flatN_snoc]
                      exact HO7.out.1
                    exact AllReadyH.nil
                  exact AllReadyH.nil
                exact AllReadyH.nil
              refine AllReadyH.cons rfl (fun K hK => ?_) ?_
              · go_simp
                refine hK.out _ _ (by exact (HS.out _ (bdrew (balloc (Below.refl _ _) _)))) (fun hHeld => ?_)
                clear hK K
                (try simp only [Act.put, List.setIfInBounds_toArray, List.set_cons_zero, List.set_cons_succ, List.getElem_toArray, List.getElem_cons_zero, List.getElem_cons_succ])
                have hq8 : Below w4.heap.size w4 ((w4.alloc (.cells #[.int .i64 s.id] 3)).drew) := bdrew (balloc (Below.refl w4.heap.size w4) (.cells #[.int .i64 s.id] 3))
                have gq8 : Blk ((w4.alloc (.cells #[.int .i64 s.id] 3)).drew) w4.heap.size 3 [.int .i64 s.id] := (Blk.new w4 3 [.int .i64 s.id]).drew
                generalize (w4.alloc (.cells #[.int .i64 s.id] 3)).drew = wq8 at *
                refine wpAnyH_ready (rs := [0]) (by kernel_rfl) (by simp) ?_
                refine AllReadyH.cons rfl (fun K hK => ?_) ?_
                · go_simp
                  refine hK.out _ _ (by exact (HS.out _ (balloc hq8 _))) (fun hHeld => ?_)
                  clear hK K
                  (try simp only [Act.put, List.setIfInBounds_toArray, List.set_cons_zero, List.set_cons_succ, List.getElem_toArray, List.getElem_cons_zero, List.getElem_cons_succ])
                  have hq9 : Below w4.heap.size w4 (wq8.alloc (.cells #[] 3)) := balloc hq8 (.cells #[] 3)
                  have gq9 := gq8.alloc (.cells #[] 3)
                  generalize wq8.alloc (.cells #[] 3) = wq9 at *
                  refine wpAnyH_ready (rs := [2]) (by kernel_rfl) (by simp) ?_
                  refine AllReadyH.cons (o := { dst := some 56, op := Op.call { callee := Callee.builtin Builtin.append, args := #[Operand.tmp 54, Operand.tmp 55], argTypes := #[30, 30] }, type := 30, pos := "ref.go:215", after := #[{ on := 0, ground := Ground.data }, { on := 1, ground := Ground.data }], guard := none }) rfl (fun K hK => ?_) ?_
                  · refine step_append_fresh (size := 1) (by rfl) _ _ 30 (by rfl) w4.heap.size 3 i1 (.int .i64 0) 8 Tryz.underlying30 hi1 hy0 hy1 hy2 (by rfl) 0 [] (by rfl) (SlR.nil (w := w4) (B := w4.heap.size) (k := 1)) hq9 np cp (path.flatMap cN) (by rfl) HPS.out hq9 (by omega) (by unfold maxLen; omega) (by omega) hq9.size ?_
                    intro vq10 wq10 oq10 hgq
                    have hq10 : Below w4.heap.size w4 wq10 := bgrown hq9 hgq (fun j e => by cases e)
                    simp only [Nat.zero_add, List.nil_append] at oq10
                    have gq10 := gq9.grown hgq (by simp)
                    clear hgq
                    refine hK.out _ _ (by exact (HS.out _ hq10)) (fun hHeld => ?_)
                    clear hK K
                    (try simp only [Act.put, List.setIfInBounds_toArray, List.set_cons_zero, List.set_cons_succ, List.getElem_toArray, List.getElem_cons_zero, List.getElem_cons_succ])
                    refine wpAnyH_ready (rs := [6]) (by kernel_rfl) (by simp) ?_
                    refine AllReadyH.cons (o := { dst := some 60, op := Op.call { callee := Callee.builtin Builtin.append, args := #[Operand.tmp 56, Operand.tmp 59], argTypes := #[30, 30] }, type := 30, pos := "ref.go:215", after := #[{ on := 2, ground := Ground.data }, { on := 5, ground := Ground.data }, { on := 2, ground := Ground.chain }], guard := none }) rfl (fun K hK => ?_) ?_
                    · refine step_append_sl (size := 1) (by rfl) _ _ 30 (by rfl) w4.heap.size 3 i1 (.int .i64 0) 8 Tryz.underlying30 hi1 hy0 hy1 hy2 (by rfl) (by decide) vq10 np (path.flatMap cN) (by rfl) oq10 1 1 (cN s.id) (by rfl) (gq10.slr (n := 1) (k := 1) rfl) (Below.refl _ _) (fun u hu => oneN [s.id] u (by simpa using hu)) (by unfold maxLen; omega) (by omega) hq10.size ?_
                      intro vq11 wq11 oq11 hgq horq
                      have hq11 : Below w4.heap.size w4 wq11 := Below.grown hq10 hgq hq10.size (fun j e => (own_lt oq10 j e).1)
                      obtain ⟨Aq, cq, heq, -, -, -⟩ := SlR.of_own oq11
                      subst heq
                      have HO11 := hide (And.intro oq11 hq11)
                      clear hgq horq oq11 hq11
                      refine hK.out _ _ (by exact (HS.out _ HO11.out.2)) (fun hHeld => ?_)
                      clear hK K
                      (try simp only [Act.put, List.setIfInBounds_toArray, List.set_cons_zero, List.set_cons_succ, List.getElem_toArray, List.getElem_cons_zero, List.getElem_cons_succ])
                      refine wpAnyH_take (i := 7) (v := ?_) rfl (by kernel_rfl) (by kernel_rfl) (by kernel_rfl) (fun _ _ _ h => h) (Or.inl ⟨by rfl, ?hy6⟩) (by assumption) ?rs6
                      case hy6 => (intro w hSw; (try dsimp only at hSw); go_simp; try (with_reducible rfl))
                      (try simp only [Act.put, List.setIfInBounds_toArray, List.set_cons_zero, List.set_cons_succ, List.getElem_toArray, List.getElem_cons_zero, List.getElem_cons_succ])
                      refine wpAnyH_done (by kernel_rfl) ?_ _
                      go_wp2_with fail
                      go_meet
                      refine ⟨Aq, cq, rfl, ?_, HO11.out.2⟩
                      rw [flatN_snoc]
                      exact HO11.out.1
                    exact AllReadyH.nil
                  exact AllReadyH.nil
                exact AllReadyH.nil
              exact AllReadyH.nil
            case rest =>
              obtain ⟨w5, rfl⟩ : ∃ w5 : World, w5 = wc := ⟨_, rfl⟩
              obtain ⟨Aq, cq, rfl, ho5, hb5⟩ := hcut
              have gX5 := HX.out.1.below hb5 HX.out.1.lt
              have gP5 := HX.out.2.1.below hb5 HX.out.2.1.lt
              have hk5 : Kee n0 n0 wr w5 := HK4.out.1.trans (Kee.of_below HK4.out.2 hb5)
              have hs5 : n0 ≤ w5.heap.size := Nat.le_trans HK4.out.2 hb5.size
              have ho5' := own_base ho5 HK4.out.2
              have hvo5 := own_bel (own_bel HY.out.2.1 (show Below wr.heap.size wr w4 by rw [HXB.out]; exact HX.out.2.2)) hb5
              have HG5 := hide (And.intro gX5 (And.intro gP5 (And.intro hk5 (And.intro hs5 (And.intro ho5' hvo5)))))
              have hx50 : xb < w5.heap.size := gX5.lt
              clear gX5 gP5 hk5 hs5 ho5' hvo5 ho5 hb5 HX HK4 HPS
              go_upto_region 10 with (fail)
              rcases hkind with ⟨hk1, hmod⟩ | hk2
              · have HKd := hide (And.intro hk1 hmod)
                obtain ⟨z0, z1, z2, z3, z4, z5⟩ := HG5.out.1.allI
                rw [hk1] at z1
                obtain ⟨q0, q1⟩ := HG5.out.2.1.two
                have lP := HG5.out.2.1.lt
                clear hk1 hmod
                have gA : SlR (w5.alloc (.cells (cP ⟨Aq, np + 1, cq, x + s.x, y + s.y, s.text⟩).toArray 75)) _ 4 (some ⟨w5.heap.size, 0, none⟩) 1 (cP ⟨Aq, np + 1, cq, x + s.x, y + s.y, s.text⟩) := slr_new _ _ rfl rfl
                have HSz := hide HG5.out.2.2.2.1
                have holn : (outs (pre ++ ys)).length ≤ 200 := by omega
                obtain ⟨OL, hOL⟩ : ∃ OL, outs (pre ++ ys) = OL := ⟨_, rfl⟩
                have HOL := hide hOL
                have HG6 := HG5
                rw [hOL] at HG6 holn
                clear HG5
                rw [hOL]
                clear hOL
                go_wp2_with (at_builtin; refine wpList_append_sl (size := 4) rfl _ _ 53 rfl n0 75 i2 (.agg #[.slice none 0 0, .int .i64 0, .int .i64 0, .string ⟨#[]⟩]) 56 Tryz.underlying53 hi2 hx0 hx1 hx2 rfl (by decide) (.slice Av OL.length cv) OL.length (OL.flatMap cP) rfl (HG6.out.2.2.2.2.2.alloc _) 1 1 (cP ⟨Aq, np + 1, cq, x + s.x, y + s.y, s.text⟩) rfl gA (Below.refl _ _) (fun u hu => oneP _ u hu) (by unfold maxLen; omega) (by omega) (by have := HSz.out; simp; omega) ?_; intro v6 w7 ho6 hg6 hor6)
                have HO6 := hide (And.intro ho6 hg6)
                clear ho6 hg6 hor6 gA
                go_roundw
                case rel =>
                  obtain ⟨-, -, hk5, hs5, ho5, hvo5⟩ := HG6.out
                  have hkA : Kee n0 n0 w5 w7 := (Kee.of_below hs5 (balloc (Below.refl w5.heap.size w5) (.cells (cP ⟨Aq, np + 1, cq, x + s.x, y + s.y, s.text⟩).toArray 75))).trans (Kee.grownP (hvo5.alloc _) HO6.out.2 (Nat.le_refl _) (by simp; omega))
                  refine ⟨k + 1, by omega, by go_num, HY.out.2.2.trans (hk5.trans hkA), ?_, .inl ⟨ys ++ [⟨⟨Aq, np + 1, cq, x + s.x, y + s.y, s.text⟩, 1, path ++ [s.id]⟩], ?_, ?_, ?_, ?_, ?_⟩⟩
                  · exact Nat.le_trans (Nat.le_trans (by simp; omega) HO6.out.2.size) (Nat.le_refl _)
                  · rw [← List.append_assoc, List.length_append, HM.out]
                    simp
                  · refine HNew.out _ ?_
                    rw [show plc ms f (itemsOf ms s.mod) (path ++ [s.id]) (x + s.x) (y + s.y) = [] by rw [HKd.out.2, itemsOf_zero HV.out.1]; cases f <;> rfl]
                    simp [ofY, HKd.out.1]
                  · rw [← List.append_assoc, List.map_append]
                    have := HE1.out
                    rw [HKd.out.1] at this
                    exact this
                  · intro u hu
                    rcases List.mem_append.1 hu with hu | hu
                    · exact ((HY.out.1 u hu).kee hk5).kee hkA
                    · rw [List.mem_singleton.1 hu]
                      exact ⟨own_kee (by simpa [HP.out.1] using ho5) hkA (Nat.le_refl _), by simp [HP.out.1]⟩
                  · rw [← List.append_assoc, outs_in _ _ rfl, HOL.out, List.length_append, flatP_snoc]
                    exact HO6.out.1
                case measure => simp [intOf]; omega
              · have HKd := hide hk2
                have hf2 := HS2.out hk2
                obtain ⟨⟨-, sM, hmk⟩, -, -⟩ := HE.out _ (HY.out.2.2.trans HG5.out.2.2.1)
                have hsl5 := sM.more HG5.out.2.2.2.1
                have hidx : ∃ (j : Nat) (hj : j < rows.length), idxF (fun q : MR => decide (q.id = s.mod)) rows 0 = (j : Int) ∧ rows[j].n ≤ rows[j].c ∧ rows[j].c ≤ 9223372036854775807 ∧ SlR w5 n0 6 rows[j].a rows[j].n ((itemsOf ms s.mod).flatMap cI) := by
                  rcases idxF_cases (fun q : MR => decide (q.id = s.mod)) rows 0 with ⟨h1, -, h3⟩ | ⟨j, hj, h1, -, h3, -⟩
                  · exfalso
                    rcases (hmk.mods HG5.out.2.2.2.1).find (n := s.mod) with ⟨-, h⟩ | ⟨q, m2, h, -⟩
                    · rw [h] at hf2; cases hf2
                    · rw [show fndR rows s.mod = none from h3] at h; cases h
                  · have hj' : j < ms.length := by rw [← hmk.1]; exact hj
                    obtain ⟨e1, e2, e3, e4⟩ := hmk.2 j hj hj'
                    have hid : rows[j].id = s.mod := by simpa using List.find?_some h3
                    refine ⟨j, hj, by rw [h1, Nat.zero_add], e2, e3, ?_⟩
                    rw [← hid, e1, itemsOf_of (pair_ne (valid_parts HV.out.1).2.1) (List.getElem_mem hj')]
                    exact e4
                obtain ⟨jr, hjr, hjx, hjn, hjc, hsi⟩ := hidx
                obtain ⟨b2, off2, hA2, hb2, y0, y1⟩ := hsl5.atM (Below.refl _ _) hjr
                have hlr := hsl5.lenm
                have hjN : jr < N := by omega
                have hjN' : (jr : Int) < (N : Int) := by omega
                subst hA2
                have HFd : Hid (∀ z : World, Kee n0 n0 w5 z → n0 ≤ z.heap.size → Calls Tryz.prog 47 #[.slice (some ⟨b2, off2, none⟩) N cc, .int .i64 s.mod] z (fun e w' => e = .returned (.int .i64 (jr : Int)) ∧ z = w')) := hide fun z hz hz2 => by
                  have := c_rFind (some ⟨b2, off2, none⟩) N cc rows s.mod z hN ((sM.below hz.below).more hz2)
                  rw [hjx] at this
                  exact this
                obtain ⟨b3, off3, hA3, hb3n, y0', y1'⟩ := sM.atM (Below.refl _ _) hjr
                cases hA3
                generalize rows[jr] = q at *
                obtain ⟨qi, qa, qn, qc⟩ := q
                simp only at hjn hjc hsi y0 y1 y0' y1'
                have hqn : qn ≤ 9223372036854775807 := by omega
                have HSi := hide hsi
                have HS := hide (fun (U : World) (h : Kee n0 n0 w5 U) (h2 : n0 ≤ U.heap.size) => (show (Kee n0 n0 w5 U ∧ n0 ≤ U.heap.size) ∧ U.cell? ⟨xb, 5, none⟩ = some (.int .i64 s.mod) ∧ U.cell? ⟨pb, 0, none⟩ = some (.int .i64 (x + s.x)) ∧ U.cell? ⟨pb, 1, none⟩ = some (.int .i64 (y + s.y)) ∧ U.cell? ⟨b2, off2 + jr * 2 + 1, none⟩ = some (.slice qa qn qc) from
                  ⟨⟨h, h2⟩, (HG5.out.1.kee h (by have := HN0x.out; omega)).cell 5, (HG5.out.2.1.kee h (by have := HPBk.out; have := HN0x.out; omega)).two.1, (HG5.out.2.1.kee h (by have := HPBk.out; have := HN0x.out; omega)).two.2, (h.below.cell (p := ⟨b2, _, none⟩) hb3n).trans y1'⟩))
                obtain ⟨-, z1, -, -, -, -⟩ := HG5.out.1.allI
                rw [hk2] at z1
                have lX := HG5.out.1.lt
                have lP := HG5.out.2.1.lt
                clear hk2 hf2 sM hmk hsl5 hjx hlr y0 y1 y0' y1' hsi
                go_upto_region 12 with (fail)
                clear z1
                have hon : outs ((pre ++ ys) ++ [(⟨⟨Aq, np + 1, cq, x + s.x, y + s.y, s.text⟩, s.kind, path ++ [s.id]⟩ : Yi)]) = outs (pre ++ ys) := outs_no _ _ (by show s.kind ≠ 1; rw [HKd.out]; decide)
                have hk56 : Kee n0 n0 w5 w5.drew := Kee.of_below HG5.out.2.2.2.1 (bdrew (Below.refl _ _))
                have hs6 : n0 ≤ w5.drew.heap.size := Nat.le_trans HG5.out.2.2.2.1 (bdrew (Below.refl w5.heap.size w5)).size
                obtain ⟨⟨-, sM6, hmk6⟩, -, -⟩ := HE.out _ (HY.out.2.2.trans (HG5.out.2.2.1.trans hk56))
                have hpb := HPB.out
                unfold plB at hpb
                simp only [Bool.and_eq_true, inB_iff] at hpb
                have hcall := ih n0 N cc (some ⟨b2, off2, none⟩) rows ms (itemsOf ms s.mod) (path ++ [s.id]) (x + s.x) (y + s.y) qa Aq qn qc (np + 1) cq ((pre ++ ys) ++ [(⟨⟨Aq, np + 1, cq, x + s.x, y + s.y, s.text⟩, s.kind, path ++ [s.id]⟩ : Yi)]) (.slice Av (outs (pre ++ ys)).length cv) w5.drew
                  HV.out.1 hN hs6 sM6 hmk6 (mod_items HV.out.1 s.mod) HDp.out ⟨hpb.1.1, hpb.1.2, hpb.2.1, hpb.2.2⟩ (by have := HPl.out; rw [List.length_append, List.length_singleton]; omega) (RdK.old (HSi.out.below hk56.below) hs6) hqn
                  (RdK.own (own_kee HG5.out.2.2.2.2.1 hk56 (Nat.le_refl _)) (Nat.le_refl _)) (by rw [List.map_append]; exact HE1.out) (by rw [hon]; exact own_bel HG5.out.2.2.2.2.2 (bdrew (Below.refl _ _)))
                rw [show ((((pre ++ ys) ++ [(⟨⟨Aq, np + 1, cq, x + s.x, y + s.y, s.text⟩, s.kind, path ++ [s.id]⟩ : Yi)]).length : Nat) : Int) = (m : Int) + 1 by rw [List.length_append, HM.out]; simp] at hcall
                have HCa := hide hcall
                have HK56 := hide (And.intro hk56 hs6)
                clear hk56 hs6 hon sM6 hmk6 hpb hcall
                refine wp_region_held_drew (S := fun U => (Kee n0 n0 w5 U ∧ n0 ≤ U.heap.size) ∧ U.cell? ⟨xb, 5, none⟩ = some (.int .i64 s.mod) ∧ U.cell? ⟨pb, 0, none⟩ = some (.int .i64 (x + s.x)) ∧ U.cell? ⟨pb, 1, none⟩ = some (.int .i64 (y + s.y)) ∧ U.cell? ⟨b2, off2 + jr * 2 + 1, none⟩ = some (.slice qa qn qc)) (by kernel_rfl) (HS.out _ HK56.out.1 HK56.out.2) (fun hHeld => ?_)
                refine wpAnyH_take (i := 0) (v := ?_) rfl (by kernel_rfl) (by kernel_rfl) (by kernel_rfl) (fun _ _ _ h => h) (Or.inl ⟨by rfl, ?hy7⟩) (by assumption) ?rs7
                case hy7 => (intro w hSw; (try dsimp only at hSw); go_simp; try (with_reducible rfl))
                (try simp only [Act.put, List.setIfInBounds_toArray, List.set_cons_zero, List.set_cons_succ, List.getElem_toArray, List.getElem_cons_zero, List.getElem_cons_succ])
                refine wpAnyH_take (i := 1) (v := ?_) rfl (by kernel_rfl) (by kernel_rfl) (by kernel_rfl) (fun _ _ _ h => h) (Or.inl ⟨by rfl, ?hy8⟩) (by assumption) ?rs8
                case hy8 => (intro w hSw; (try dsimp only at hSw); go_simp; try (with_reducible rfl))
                (try simp only [Act.put, List.setIfInBounds_toArray, List.set_cons_zero, List.set_cons_succ, List.getElem_toArray, List.getElem_cons_zero, List.getElem_cons_succ])
                refine wpAnyH_take (i := 2) (v := ?_) rfl (by kernel_rfl) (by kernel_rfl) (by kernel_rfl) (fun _ _ _ h => h) (Or.inl ⟨by rfl, ?hy9⟩) (by assumption) ?rs9
                case hy9 => (intro w hSw; (try dsimp only at hSw); go_simp; try (with_reducible rfl))
                (try simp only [Act.put, List.setIfInBounds_toArray, List.set_cons_zero, List.set_cons_succ, List.getElem_toArray, List.getElem_cons_zero, List.getElem_cons_succ])
                refine wpAnyH_take (i := 3) (v := ?_) rfl (by kernel_rfl) (by kernel_rfl) (by kernel_rfl) (fun _ _ _ h => h) (Or.inl ⟨by rfl, ?hy10⟩) (by assumption) ?rs10
                case hy10 => (intro w hSw; (try dsimp only at hSw); go_simp; try (with_reducible rfl))
                (try simp only [Act.put, List.setIfInBounds_toArray, List.set_cons_zero, List.set_cons_succ, List.getElem_toArray, List.getElem_cons_zero, List.getElem_cons_succ])
                refine wpAnyH_take (i := 4) (v := ?_) rfl (by kernel_rfl) (by kernel_rfl) (by kernel_rfl) (fun _ _ _ h => h) (Or.inl ⟨by rfl, ?hy11⟩) (by assumption) ?rs11
                case hy11 => (intro w hSw; (try dsimp only at hSw); go_simp; try (with_reducible rfl))
                (try simp only [Act.put, List.setIfInBounds_toArray, List.set_cons_zero, List.set_cons_succ, List.getElem_toArray, List.getElem_cons_zero, List.getElem_cons_succ])
                refine wpAnyH_take (i := 5) (v := ?_) rfl (by kernel_rfl) (by kernel_rfl) (by kernel_rfl) (fun _ _ _ h => h) (Or.inl ⟨by rfl, ?hy12⟩) (by assumption) ?rs12
                case hy12 => (intro w hSw; (try dsimp only at hSw); go_simp; try (with_reducible rfl))
                (try simp only [Act.put, List.setIfInBounds_toArray, List.set_cons_zero, List.set_cons_succ, List.getElem_toArray, List.getElem_cons_zero, List.getElem_cons_succ])
                refine wpAnyH_call (i := 6) rfl (by kernel_rfl) (by kernel_rfl) (by kernel_rfl) (fun _ _ _ h => h) (by rfl) ?he13 (fun w hSw => (HFd.out _ hSw.1.1 hSw.1.2)) (by assumption) ?rs13
                case he13 => (intro w hSw; (try dsimp only at hSw); go_simp)
                (try simp only [Act.put, List.setIfInBounds_toArray, List.set_cons_zero, List.set_cons_succ, List.getElem_toArray, List.getElem_cons_zero, List.getElem_cons_succ])
                refine wpAnyH_take (i := 7) (v := ?_) rfl (by kernel_rfl) (by kernel_rfl) (by kernel_rfl) (fun _ _ _ h => h) (Or.inl ⟨by rfl, ?hy14⟩) (by assumption) ?rs14
                case hy14 => (intro w hSw; (try dsimp only at hSw); go_simp; try (with_reducible rfl))
                (try simp only [Act.put, List.setIfInBounds_toArray, List.set_cons_zero, List.set_cons_succ, List.getElem_toArray, List.getElem_cons_zero, List.getElem_cons_succ])
                refine wpAnyH_take (i := 8) (v := ?_) rfl (by kernel_rfl) (by kernel_rfl) (by kernel_rfl) (fun _ _ _ h => h) (Or.inl ⟨by rfl, ?hy15⟩) (by assumption) ?rs15
                case hy15 => (intro w hSw; (try dsimp only at hSw); go_simp; try (with_reducible rfl))
                (try simp only [Act.put, List.setIfInBounds_toArray, List.set_cons_zero, List.set_cons_succ, List.getElem_toArray, List.getElem_cons_zero, List.getElem_cons_succ])
                refine wpAnyH_take (i := 9) (v := ?_) rfl (by kernel_rfl) (by kernel_rfl) (by kernel_rfl) (fun _ _ _ h => h) (Or.inl ⟨by rfl, ?hy16⟩) (by assumption) ?rs16
                case hy16 => (intro w hSw; (try dsimp only at hSw); go_simp; try (with_reducible rfl))
                (try simp only [Act.put, List.setIfInBounds_toArray, List.set_cons_zero, List.set_cons_succ, List.getElem_toArray, List.getElem_cons_zero, List.getElem_cons_succ])
                refine wpAnyH_take (i := 10) (v := ?_) rfl (by kernel_rfl) (by kernel_rfl) (by kernel_rfl) (fun _ _ _ h => h) (Or.inl ⟨by rfl, ?hy17⟩) (by assumption) ?rs17
                case hy17 => (intro w hSw; (try dsimp only at hSw); go_simp; try (with_reducible rfl))
                (try simp only [Act.put, List.setIfInBounds_toArray, List.set_cons_zero, List.set_cons_succ, List.getElem_toArray, List.getElem_cons_zero, List.getElem_cons_succ])
                refine wpAnyH_take (i := 11) (v := ?_) rfl (by kernel_rfl) (by kernel_rfl) (by kernel_rfl) (fun _ _ _ h => h) (Or.inl ⟨by rfl, ?hy18⟩) (by assumption) ?rs18
                case hy18 => (intro w hSw; (try dsimp only at hSw); go_simp; try (with_reducible rfl))
                (try simp only [Act.put, List.setIfInBounds_toArray, List.set_cons_zero, List.set_cons_succ, List.getElem_toArray, List.getElem_cons_zero, List.getElem_cons_succ])
                refine wpAnyH_take (i := 12) (v := ?_) rfl (by kernel_rfl) (by kernel_rfl) (by kernel_rfl) (fun _ _ _ h => h) (Or.inl ⟨by rfl, ?hy19⟩) (by assumption) ?rs19
                case hy19 => (intro w hSw; (try dsimp only at hSw); go_simp; try (with_reducible rfl))
                (try simp only [Act.put, List.setIfInBounds_toArray, List.set_cons_zero, List.set_cons_succ, List.getElem_toArray, List.getElem_cons_zero, List.getElem_cons_succ])
                refine wpAnyH_ready (rs := [13]) (by kernel_rfl) (by simp) ?_
                refine AllReadyH.cons rfl (fun K hK => ?_) ?_
                · go_simp
                  refine HCa.out.mono ?_
                  have HK6 := HG5.out.2.2.2.1
                  rintro e w7 ⟨hk7, ⟨hbad, rfl⟩ | ⟨hok7, zs, v7, rfl, hzs, hgz, hv7⟩⟩
                  · have HF := hide (And.intro (HK56.out.1.trans hk7) (HSubs.out (by rw [List.map_append] at hbad; exact hbad)))
                    have HZ := hide (Nat.le_trans HK56.out.2 hk7.below.size)
                    clear hk7 hbad
                    refine hK.out _ _ (by exact (HS.out _ HF.out.1 HZ.out)) (fun hHeld => ?_)
                    clear hK K
                    (try simp only [Act.put, List.setIfInBounds_toArray, List.set_cons_zero, List.set_cons_succ, List.getElem_toArray, List.getElem_cons_zero, List.getElem_cons_succ])
                    refine wpAnyH_take (i := 14) (v := ?_) rfl (by kernel_rfl) (by kernel_rfl) (by kernel_rfl) (fun _ _ _ h => h) (Or.inl ⟨by rfl, ?hy20⟩) (by assumption) ?rs20
                    case hy20 => (intro w hSw; (try dsimp only at hSw); go_simp; try (with_reducible rfl))
                    (try simp only [Act.put, List.setIfInBounds_toArray, List.set_cons_zero, List.set_cons_succ, List.getElem_toArray, List.getElem_cons_zero, List.getElem_cons_succ])
                    refine wpAnyH_take (i := 15) (v := ?_) rfl (by kernel_rfl) (by kernel_rfl) (by kernel_rfl) (fun _ _ _ h => h) (Or.inl ⟨by rfl, ?hy21⟩) (by assumption) ?rs21
                    case hy21 => (intro w hSw; (try dsimp only at hSw); go_simp; try (with_reducible rfl))
                    (try simp only [Act.put, List.setIfInBounds_toArray, List.set_cons_zero, List.set_cons_succ, List.getElem_toArray, List.getElem_cons_zero, List.getElem_cons_succ])
                    refine wpAnyH_take (i := 16) (v := ?_) rfl (by kernel_rfl) (by kernel_rfl) (by kernel_rfl) (fun _ _ _ h => h) (Or.inl ⟨by rfl, ?hy22⟩) (by assumption) ?rs22
                    case hy22 => (intro w hSw; (try dsimp only at hSw); go_simp; try (with_reducible rfl))
                    (try simp only [Act.put, List.setIfInBounds_toArray, List.set_cons_zero, List.set_cons_succ, List.getElem_toArray, List.getElem_cons_zero, List.getElem_cons_succ])
                    refine wpAnyH_take (i := 17) (v := ?_) rfl (by kernel_rfl) (by kernel_rfl) (by kernel_rfl) (fun _ _ _ h => h) (Or.inl ⟨by rfl, ?hy23⟩) (by assumption) ?rs23
                    case hy23 => (intro w hSw; (try dsimp only at hSw); go_simp; try (with_reducible rfl))
                    (try simp only [Act.put, List.setIfInBounds_toArray, List.set_cons_zero, List.set_cons_succ, List.getElem_toArray, List.getElem_cons_zero, List.getElem_cons_succ])
                    refine wpAnyH_take (i := 18) (v := ?_) rfl (by kernel_rfl) (by kernel_rfl) (by kernel_rfl) (fun _ _ _ h => h) (Or.inl ⟨by rfl, ?hy24⟩) (by assumption) ?rs24
                    case hy24 => (intro w hSw; (try dsimp only at hSw); go_simp; try (with_reducible rfl))
                    (try simp only [Act.put, List.setIfInBounds_toArray, List.set_cons_zero, List.set_cons_succ, List.getElem_toArray, List.getElem_cons_zero, List.getElem_cons_succ])
                    refine wpAnyH_done (by kernel_rfl) ?_ _
                    go_wp2_with fail
                    go_roundw
                    case rel => exact ⟨k + 1, by omega, by go_num, HY.out.2.2.trans (HG5.out.2.2.1.trans HF.out.1), HZ.out, .inr ⟨rfl, rfl, HF.out.2⟩⟩
                    case measure => simp [intOf]; omega
                  · have HF := hide (And.intro (HK56.out.1.trans hk7) (And.intro hok7 (And.intro hzs (And.intro hgz hv7))))
                    have HZ := hide (Nat.le_trans HK56.out.2 hk7.below.size)
                    clear hk7 hok7 hzs hgz hv7
                    obtain ⟨M7, hM7⟩ : ∃ M7, ((pre ++ ys ++ [(⟨⟨Aq, np + 1, cq, x + s.x, y + s.y, s.text⟩, s.kind, path ++ [s.id]⟩ : Yi)] ++ zs).length : Nat) = M7 := ⟨_, rfl⟩
                    have HM7 := hide hM7
                    rw [hM7]
                    clear hM7
                    refine hK.out _ _ (by exact (HS.out _ HF.out.1 HZ.out)) (fun hHeld => ?_)
                    clear hK K
                    (try simp only [Act.put, List.setIfInBounds_toArray, List.set_cons_zero, List.set_cons_succ, List.getElem_toArray, List.getElem_cons_zero, List.getElem_cons_succ])
                    refine wpAnyH_take (i := 14) (v := ?_) rfl (by kernel_rfl) (by kernel_rfl) (by kernel_rfl) (fun _ _ _ h => h) (Or.inl ⟨by rfl, ?hy25⟩) (by assumption) ?rs25
                    case hy25 => (intro w hSw; (try dsimp only at hSw); go_simp; try (with_reducible rfl))
                    (try simp only [Act.put, List.setIfInBounds_toArray, List.set_cons_zero, List.set_cons_succ, List.getElem_toArray, List.getElem_cons_zero, List.getElem_cons_succ])
                    refine wpAnyH_take (i := 15) (v := ?_) rfl (by kernel_rfl) (by kernel_rfl) (by kernel_rfl) (fun _ _ _ h => h) (Or.inl ⟨by rfl, ?hy26⟩) (by assumption) ?rs26
                    case hy26 => (intro w hSw; (try dsimp only at hSw); go_simp; try (with_reducible rfl))
                    (try simp only [Act.put, List.setIfInBounds_toArray, List.set_cons_zero, List.set_cons_succ, List.getElem_toArray, List.getElem_cons_zero, List.getElem_cons_succ])
                    refine wpAnyH_take (i := 16) (v := ?_) rfl (by kernel_rfl) (by kernel_rfl) (by kernel_rfl) (fun _ _ _ h => h) (Or.inl ⟨by rfl, ?hy27⟩) (by assumption) ?rs27
                    case hy27 => (intro w hSw; (try dsimp only at hSw); go_simp; try (with_reducible rfl))
                    (try simp only [Act.put, List.setIfInBounds_toArray, List.set_cons_zero, List.set_cons_succ, List.getElem_toArray, List.getElem_cons_zero, List.getElem_cons_succ])
                    refine wpAnyH_take (i := 17) (v := ?_) rfl (by kernel_rfl) (by kernel_rfl) (by kernel_rfl) (fun _ _ _ h => h) (Or.inl ⟨by rfl, ?hy28⟩) (by assumption) ?rs28
                    case hy28 => (intro w hSw; (try dsimp only at hSw); go_simp; try (with_reducible rfl))
                    (try simp only [Act.put, List.setIfInBounds_toArray, List.set_cons_zero, List.set_cons_succ, List.getElem_toArray, List.getElem_cons_zero, List.getElem_cons_succ])
                    refine wpAnyH_take (i := 18) (v := ?_) rfl (by kernel_rfl) (by kernel_rfl) (by kernel_rfl) (fun _ _ _ h => h) (Or.inl ⟨by rfl, ?hy29⟩) (by assumption) ?rs29
                    case hy29 => (intro w hSw; (try dsimp only at hSw); go_simp; try (with_reducible rfl))
                    (try simp only [Act.put, List.setIfInBounds_toArray, List.set_cons_zero, List.set_cons_succ, List.getElem_toArray, List.getElem_cons_zero, List.getElem_cons_succ])
                    refine wpAnyH_done (by kernel_rfl) ?_ _
                    go_wp2_with fail
                    go_roundw
                    case rel =>
                      obtain ⟨hzk, hok7, hzs, hgz, hv7⟩ := HF.out
                      have happ : pre ++ (ys ++ ((⟨⟨Aq, np + 1, cq, x + s.x, y + s.y, s.text⟩, s.kind, path ++ [s.id]⟩ : Yi) :: zs)) = pre ++ ys ++ [(⟨⟨Aq, np + 1, cq, x + s.x, y + s.y, s.text⟩, s.kind, path ++ [s.id]⟩ : Yi)] ++ zs := by simp
                      refine ⟨k + 1, by omega, by go_num, HY.out.2.2.trans (HG5.out.2.2.1.trans hzk), HZ.out, .inl ⟨ys ++ ((⟨⟨Aq, np + 1, cq, x + s.x, y + s.y, s.text⟩, s.kind, path ++ [s.id]⟩ : Yi) :: zs), ?_, ?_, ?_, ?_, ?_⟩⟩
                      · rw [happ, HM7.out]
                      · exact HNew.out _ (by rw [List.map_cons, hzs]; rfl)
                      · rw [happ, List.map_append, hzs]
                        exact hok7
                      · intro u hu
                        rcases List.mem_append.1 hu with hu | hu
                        · exact ((HY.out.1 u hu).kee HG5.out.2.2.1).kee hzk
                        · rcases List.mem_cons.1 hu with rfl | hu
                          · exact ⟨own_kee (by simpa [HP.out.1] using HG5.out.2.2.2.2.1) hzk (Nat.le_refl _), by simp [HP.out.1]⟩
                          · exact hgz u hu
                      · rw [happ]
                        exact hv7
                    case measure => simp [intOf]; omega
                exact AllReadyH.nil
        · have hm3 : decide ((200 : Int) < (m : Int) + 1) = true := by simp; omega
          have HF := hide (HBad.out w3 (HY.out.2.2.trans (Kee.of_below (by rw [HXB.out]; exact hn0) (by rw [HXB.out]; exact HG3.out.2.2))) (by
            rw [HOne.out, HLe.out, HM.out]
            show (decide (m < 200) && _) = false
            rw [decide_eq_false hm2, Bool.false_and]))
          go_wp2_with fail
          go_ret2
          exact HF.out
      · obtain rfl : k = ni := by omega
        have hKw := (HE.out _ hK).2.2
        have hfull : items.take k = items := List.take_of_length_le (by rw [HP.out.2]; exact Nat.le_refl _)
        rw [hfull] at hys
        have HF := hide (show ∀ m : Nat, (pre ++ ys).length = m → RgPost n0 ms (f + 1) items path x y pre w (.returned (.tuple #[u0, .int .i64 (m : Nat)])) wr from fun m hm =>
          ⟨hKw, .inr ⟨by rw [← hys, ← List.map_append]; exact hexp, ys, u0, by rw [hm], hys, hgy, hvo⟩⟩)
        have HLe := hide hlen
        clear hKw hfull hys hexp hgy hvo hK
        obtain ⟨m, hm⟩ : ∃ m, (pre ++ ys).length = m := ⟨_, rfl⟩
        have HM := hide hm
        rw [hm] at hlen
        have hmz : (0 : Int) ≤ (m : Nat) := by omega
        rw [hm]
        clear hm HLe
        go_wp2_with fail
        go_ret2
        exact HF.out m HM.out
    · have hKw := (HE.out _ hK).2.2
      have HF := hide (show RgPost n0 ms (f + 1) items path x y pre w (.returned (.tuple #[.slice none 0 0, .int .i64 (-1)])) wr from ⟨hKw, .inl ⟨hbad, rfl⟩⟩)
      clear hKw hK hbad
      by_cases hlt : k < ni <;> (go_wp2_with fail; go_ret2; exact HF.out)
theorem c_rGrown : ∀ f, RgAt f
  | 0 => rg_zero
  | f + 1 => rg_step f (c_rGrown f)
end Go.Proofs.YtncdombfhcfobaaGreat
