/- The law's two lists of modules: Made's rows and their items lie behind the call's world; an item stored into one of them. -/
import Derived.Test.YtncdombfhcfobaaGreatG14
import Derived.Test.YtncdombfhcfobaaGreatM35b
namespace Go.Proofs.YtncdombfhcfobaaGreat
open Go.RowKit
def ModsB (b : Nat) (w : World) (rows : List MR) (ms : List Mo) : Prop :=
  rows.length = ms.length ∧ ∀ (k : Nat) (h : k < rows.length) (h' : k < ms.length), rows[k].id = ms[k].id ∧ w.ownsRow b 27 6 (.slice rows[k].a rows[k].n rows[k].c) rows[k].n (ms[k].items.flatMap cI)
theorem ModsB.o {b : Nat} {w : World} {rows : List MR} {ms : List Mo} (h : ModsB b w rows ms) : ModsO w rows ms := ⟨h.1, fun k h1 h2 => ⟨(h.2 k h1 h2).1, own_base (h.2 k h1 h2).2 (Nat.zero_le _)⟩⟩
theorem ModsB.grown {b : Nat} {W W' : World} {b' : Nat} {k' n' : Nat} {v' : Value} {xs' : List Value} {rows : List MR} {ms : List Mo} (h : ModsB b W rows ms) (h' : W.ownsRow b' 37 k' v' n' xs') (hg : W.grownBy W' v'.ownBlock) : ModsB b W' rows ms :=
  ⟨h.1, fun k h1 h2 => ⟨(h.2 k h1 h2).1, own_two (h.2 k h1 h2).2 h' (by decide) hg⟩⟩
theorem ModsB.bel {b : Nat} {W W' : World} {rows : List MR} {ms : List Mo} (h : ModsB b W rows ms) (hb : Below W.heap.size W W') : ModsB b W' rows ms :=
  ⟨h.1, fun k h1 h2 => ⟨(h.2 k h1 h2).1, own_bel (h.2 k h1 h2).2 hb⟩⟩
theorem ModsB.snoc {b : Nat} {w : World} {r : MR} {m : Mo} {rows : List MR} {ms : List Mo} (h : ModsB b w rows ms) (h1 : r.id = m.id) (h2 : w.ownsRow b 27 6 (.slice r.a r.n r.c) r.n (m.items.flatMap cI)) : ModsB b w (rows ++ [r]) (ms ++ [m]) := by
  refine ⟨by simp [h.1], fun k a c => ?_⟩
  by_cases hk : k < rows.length
  · have hk' : k < ms.length := by rw [← h.1]; exact hk
    rw [List.getElem_append_left hk, List.getElem_append_left hk']
    exact h.2 k hk hk'
  · have e : k = rows.length := by simp at a; omega
    subst e
    have e2 : rows.length = ms.length := h.1
    rw [List.getElem_append_right (Nat.le_refl _), List.getElem_append_right (by omega)]
    simp only [Nat.sub_self, e2, List.getElem_cons_zero]
    exact ⟨h1, h2⟩
def RIB (B : Nat) (v : Value) (out : List Mo) (wr : World) : Prop := ∃ P : List MR, wr.ownsRow B 37 2 v P.length (P.flatMap cM) ∧ ModsB B wr P out
theorem RIB.bel {B : Nat} {v : Value} {out : List Mo} {w w' : World} (h : RIB B v out w) (hb : Below w.heap.size w w') : RIB B v out w' := by
  obtain ⟨P, h1, h2⟩ := h
  exact ⟨P, own_bel h1 hb, h2.bel hb⟩
theorem RIB.app {B : Nat} {v v' : Value} {out : List Mo} {W W' : World} {P : List MR} {q : MR} {m : Mo} (h1 : W.ownsRow B 37 2 v P.length (P.flatMap cM)) (h2 : ModsB B W P out) (hq : q.id = m.id) (hq2 : W.ownsRow B 27 6 (.slice q.a q.n q.c) q.n (m.items.flatMap cI))
    (h3 : W'.ownsRow B 37 2 v' (P.length + 1) (P.flatMap cM ++ cM q)) (hg : W.grownBy W' v.ownBlock) : RIB B v' (out ++ [m]) W' :=
  ⟨P ++ [q], by rw [List.length_append, flatM_snoc]; exact h3, (h2.grown h1 hg).snoc hq (own_two hq2 h1 (by decide) hg)⟩
def MadeBPost (xs : List (List I3)) (w : World) (e : Ending) (w' : World) : Prop :=
  ∃ v, e = .returned v ∧ RIB w.heap.size v (madeL xs) w' ∧ Below w.heap.size w w'
set_option maxRecDepth 100000 in
set_option maxHeartbeats 4000000 in
theorem c_MadeB (A : Option Addr) (n cc : Nat) (rows : List XR) (xs : List (List I3)) (w : World) (hn : n ≤ 9223372036854775807) (hr : SlR w w.heap.size 1 A n (rows.flatMap cX)) (hx : Xss w rows xs) :
    Calls Tryz.prog 5 #[.slice A n cc] w (MadeBPost xs w) := by
  obtain ⟨i0, hi, hz0, hz1, hz2⟩ := info_parts Tryz.infoMod
  have hl := hr.lenX
  have hxl : xs.length = n := by rw [← hx.1]; exact hl
  have HL := hide (And.intro hl hxl)
  clear hl hxl
  go_enter Tryz.func5, Tryz.ntmps5
  go_wp2
  go_loopw [3, 4] (fun v i wr => ∃ k : Nat, k ≤ n ∧ k ≤ 5 ∧ i = .int .i64 k ∧ RIB w.heap.size v (madeN xs k) wr ∧ Below w.heap.size w wr) (fun _ i _ => n - (intOf i).toNat)
  case atStart => exact ⟨0, by omega, by omega, rfl, ⟨[], World.ownsRow_nil _ _ _ _, ⟨rfl, fun k h => absurd h (by simp)⟩⟩, Below.refl _ _⟩
  case round =>
    obtain ⟨k, hk, hk5, rfl, hri, hb⟩ := hrel
    by_cases hlt : k < n
    · have hji : (k : Int) < (n : Int) := by omega
      by_cases hlt5 : k < 5
      · have hji5 : (k : Int) < 5 := by omega
        obtain ⟨hl, hxl⟩ := HL.out
        have hkl : k < rows.length := by omega
        have hkx : k < xs.length := by omega
        obtain ⟨b, off, hAe, hbb, x0⟩ := hr.atX hb hkl
        obtain ⟨e1, e2, e3⟩ := hx.2 k hkl hkx
        have HSn := hide (show madeN xs (k + 1) = madeN xs k ++ [⟨(k : Int) + 1, givenL ((k : Int) + 1) xs[k]⟩] from by simp [madeN, List.getD_eq_getElem?_getD, List.getElem?_eq_getElem hkx])
        have e4 := e2.to' hb
        rw [hAe] at *
        clear hAe hr hx hl hxl e2
        generalize rows[k] = r at *
        generalize xs[k] = x at *
        clear hkl hkx
        obtain ⟨P, ho0, hmo0⟩ := hri
        have hPl : P.length ≤ 5 := by have := hmo0.1; rw [madeN_len] at this; omega
        have HR := hide (And.intro ho0 hmo0)
        clear ho0 hmo0
        have HBs := hide hb.size
        generalize madeN xs k = out at *
        have hk1 : okN ((k : Int) + 1) := ⟨by omega, by omega⟩
        go_wp2_with fail
        refine (c_Given r.a r.n r.c x ((k : Int) + 1) _ e1 e4 e3 hk1).mono ?_
        rintro e w1 ⟨v1, rfl, hown1, hb1⟩
        obtain ⟨A1, c1, rfl, hc1, hc2, hs1⟩ := SlR.of_own hown1
        generalize givenL ((k : Int) + 1) x = G at *
        have ho5 := own_bel HR.out.1 hb1
        have hm5 := HR.out.2.bel hb1
        have hb5 := bthen hb hb1
        obtain ⟨q, hq⟩ : ∃ q : MR, q = ⟨(k : Int) + 1, A1, G.length, c1⟩ := ⟨_, rfl⟩
        have gA : SlR (w1.alloc (.cells #[.int .i64 ((k : Int) + 1), .slice A1 G.length c1] 37)) (w1.alloc (.cells #[.int .i64 ((k : Int) + 1), .slice A1 G.length c1] 37)).heap.size 2 (some ⟨w1.heap.size, 0, none⟩) 1 (cM q) := by subst hq; exact slr_new _ _ rfl rfl
        have hbs := hb5.size
        have HO := hide (And.intro ho5 (And.intro hm5 (And.intro hown1 hq)))
        clear ho5 hm5 hown1 hq hs1 e4 e3
        go_wp2_with (at_builtin; refine wpList_append_sl (size := 2) rfl _ _ 28 rfl w.heap.size 37 i0 zM 32 Tryz.underlying28 hi hz0 hz1 hz2 rfl (by decide) _ P.length (P.flatMap cM) rfl (HO.out.1.alloc _) 1 1 (cM q) rfl gA (Below.refl _ _) (fun u hu => oneM [q] u (by simpa using hu)) (by unfold maxLen; omega) (by omega) (by simp; omega) ?_; intro v6 w6 ho6 hg6 hor6)
        go_roundw
        case rel =>
          obtain ⟨ho5, hm5, hown1, hq⟩ := HO.out
          refine ⟨k + 1, by omega, by omega, by go_num, ?_, (balloc hb5 _).grown hg6 (by simp; omega) (fun g e => (own_lt ho5 g e).1)⟩
          rw [HSn.out]
          refine RIB.app (ho5.alloc _) (hm5.bel (balloc (Below.refl _ _) _)) (m := ⟨(k : Int) + 1, G⟩) (q := q) (by rw [hq]) ?_ ho6 hg6
          rw [hq]
          exact own_base (own_bel hown1 (balloc (Below.refl _ _) _)) HBs.out
        case measure => simp [intOf]; omega
      · obtain rfl : k = 5 := by omega
        have hm : madeL xs = madeN xs 5 := by unfold madeL; rw [HL.out.2, Nat.min_eq_right (by omega)]
        rw [← hm] at hri
        have HV := hide hri
        clear hr hx hri hm
        go_wp2_with fail
        go_ret
        exact ⟨_, rfl, HV.out, hb⟩
    · obtain rfl : k = n := by omega
      have hm : madeL xs = madeN xs k := by unfold madeL; rw [HL.out.2, Nat.min_eq_left (by omega)]
      rw [← hm] at hri
      have HV := hide hri
      clear hr hx hri hm
      go_wp2_with fail
      go_ret
      exact ⟨_, rfl, HV.out, hb⟩
/-! an item stored -/
theorem pickL {α : Type} {R : Nat → α → Prop} : ∀ n, (∀ i, i < n → ∃ s, R i s) → ∃ l : List α, l.length = n ∧ ∀ i (h : i < l.length), R i l[i]
  | 0, _ => ⟨[], rfl, fun i h => absurd h (by simp)⟩
  | n + 1, h => by
    obtain ⟨l, hl, hr⟩ := pickL n (fun i hi => h i (by omega))
    obtain ⟨s, hs⟩ := h n (by omega)
    refine ⟨l ++ [s], by simp [hl], fun i hi => ?_⟩
    by_cases h1 : i < l.length
    · rw [List.getElem_append_left h1]; exact hr i h1
    · have : i = n := by simp at hi; omega
      subst this
      rw [List.getElem_append_right (by omega)]
      simpa [hl] using hs
def set6L (xs : List Value) (o : Nat) (s : It) : List Value := (((((xs.set o (.int .i64 s.id)).set (o + 1) (.int .i64 s.kind)).set (o + 2) (.int .i64 s.x)).set (o + 3) (.int .i64 s.y)).set (o + 4) (.string s.text)).set (o + 5) (.int .i64 s.mod)
theorem set6_flat (s : It) : ∀ (l : List It) (j : Nat), set6L (l.flatMap cI) (j * 6) s = (l.set j s).flatMap cI
  | [], j => by simp [set6L]
  | x :: l, 0 => by simp [set6L, cI]
  | x :: l, j + 1 => by
    have ih := set6_flat s l j
    rw [List.set_cons_succ, List.flatMap_cons, List.flatMap_cons, ← ih]
    unfold set6L
    rw [show (j + 1) * 6 = j * 6 + 6 by omega, show j * 6 + 6 + 1 = j * 6 + 1 + 6 by omega, show j * 6 + 6 + 2 = j * 6 + 2 + 6 by omega, show j * 6 + 6 + 3 = j * 6 + 3 + 6 by omega, show j * 6 + 6 + 4 = j * 6 + 4 + 6 by omega, show j * 6 + 6 + 5 = j * 6 + 5 + 6 by omega]
    simp only [cI, List.cons_append, List.nil_append, List.set_cons_succ]
def setW (W : World) (g o : Nat) (s : It) : World := (((((W.setCell ⟨g, o, none⟩ (.int .i64 s.id)).setCell ⟨g, o + 1, none⟩ (.int .i64 s.kind)).setCell ⟨g, o + 2, none⟩ (.int .i64 s.x)).setCell ⟨g, o + 3, none⟩ (.int .i64 s.y)).setCell ⟨g, o + 4, none⟩ (.string s.text)).setCell ⟨g, o + 5, none⟩ (.int .i64 s.mod)
theorem own_setIn {W : World} {b n k g c : Nat} {e : TypeId} {xs : List Value} (h : W.ownsRow b e k (.slice (some ⟨g, 0, none⟩) n c) n xs) (i : Nat) (u : Value) : (W.setCell ⟨g, i, none⟩ u).ownsRow b e k (.slice (some ⟨g, 0, none⟩) n c) n (xs.set i u) := by
  refine ⟨by rw [List.length_set]; exact h.1, ?_⟩
  rcases h.2 with ⟨h', _⟩ | ⟨g', cap, cur, q1, q2, q3, q4, q5, q6, q7⟩
  · cases h'
  · cases q1
    refine .inr ⟨g, c, cur.setIfInBounds i u, rfl, q2, heap_setCell_same W g i cur e u q3, q4, q5, by simpa using q6, ?_⟩
    rw [Array.toList_setIfInBounds, List.take_set, q7]
theorem own_setAny {W : World} {b n k g c : Nat} {e : TypeId} {A : Option Addr} {xs : List Value} (h : W.ownsRow b e k (.slice A n c) n xs) (i : Nat) (u : Value) : (W.setCell ⟨g, i, none⟩ u).ownsRow b e k (.slice A n c) n (if (Value.slice A n c).ownBlock = some g then xs.set i u else xs) := by
  split
  · rename_i hg
    rcases h.2 with ⟨h', _⟩ | ⟨g', cap, cur, q1, _⟩
    · cases h'; cases hg
    · cases q1
      simp only [Value.ownBlock, Option.some.injEq] at hg
      subst hg
      exact own_setIn h i u
  · rename_i hg
    exact own_setO h hg u
theorem own_setW {W : World} {b n g c : Nat} {A : Option Addr} {l : List It} (h : W.ownsRow b 27 6 (.slice A n c) n (l.flatMap cI)) (j : Nat) (s : It) : ∃ l' : List It, l'.length = l.length ∧ (setW W g (j * 6) s).ownsRow b 27 6 (.slice A n c) n (l'.flatMap cI) := by
  by_cases hg : (Value.slice A n c).ownBlock = some g
  · refine ⟨l.set j s, by simp, ?_⟩
    rw [← set6_flat]
    have h1 := own_setAny (g := g) h (j * 6) (.int .i64 s.id)
    rw [if_pos hg] at h1
    have h2 := own_setAny (g := g) h1 (j * 6 + 1) (.int .i64 s.kind)
    rw [if_pos hg] at h2
    have h3 := own_setAny (g := g) h2 (j * 6 + 2) (.int .i64 s.x)
    rw [if_pos hg] at h3
    have h4 := own_setAny (g := g) h3 (j * 6 + 3) (.int .i64 s.y)
    rw [if_pos hg] at h4
    have h5 := own_setAny (g := g) h4 (j * 6 + 4) (.string s.text)
    rw [if_pos hg] at h5
    have h6 := own_setAny (g := g) h5 (j * 6 + 5) (.int .i64 s.mod)
    rw [if_pos hg] at h6
    exact h6
  · refine ⟨l, rfl, ?_⟩
    exact own_setO (own_setO (own_setO (own_setO (own_setO (own_setO h hg _) hg _) hg _) hg _) hg _) hg _
theorem own_setOW {W : World} {b n k g : Nat} {e : TypeId} {v : Value} {xs : List Value} (h : W.ownsRow b e k v n xs) (hg : v.ownBlock ≠ some g) (o : Nat) (s : It) : (setW W g o s).ownsRow b e k v n xs :=
  own_setO (own_setO (own_setO (own_setO (own_setO (own_setO h hg _) hg _) hg _) hg _) hg _) hg _
theorem setW_below {B g : Nat} {A W : World} (h : Below B A W) (hg : B ≤ g) (o : Nat) (s : It) : Below B A (setW W g o s) :=
  (((((h.setCell (p := ⟨g, o, none⟩) hg _).setCell (p := ⟨g, o + 1, none⟩) hg _).setCell (p := ⟨g, o + 2, none⟩) hg _).setCell (p := ⟨g, o + 3, none⟩) hg _).setCell (p := ⟨g, o + 4, none⟩) hg _).setCell (p := ⟨g, o + 5, none⟩) hg _
/-- whatever module's item is stored into, what lies there are modules -/
theorem RIB.stored {B : Nat} {v : Value} {out : List Mo} {W : World} {L : Nat} (h : RIB B v out W) (hL : ∀ m ∈ out, m.items.length ≤ L) (g j : Nat) (s : It) (hg : ∃ (cs : List Value), Blk W g 27 cs) : ∃ out' : List Mo, out'.length = out.length ∧ (∀ m ∈ out', m.items.length ≤ L) ∧ RIB B v out' (setW W g (j * 6) s) := by
  obtain ⟨P, h1, h2⟩ := h
  have key : ∀ i, i < out.length → ∃ m' : Mo, m'.items.length ≤ L ∧ ∀ (hp : i < P.length), P[i].id = m'.id ∧ (setW W g (j * 6) s).ownsRow B 27 6 (.slice P[i].a P[i].n P[i].c) P[i].n (m'.items.flatMap cI) := by
    intro i hi
    have hp : i < P.length := by rw [h2.1]; exact hi
    obtain ⟨e1, e2⟩ := h2.2 i hp hi
    obtain ⟨l', k1, k2⟩ := own_setW (g := g) e2 j s
    exact ⟨⟨out[i].id, l'⟩, by show l'.length ≤ L; rw [k1]; exact hL _ (List.getElem_mem hi), fun _ => ⟨e1, k2⟩⟩
  obtain ⟨out', hl, hr⟩ := pickL out.length key
  obtain ⟨cs, hb⟩ := hg
  refine ⟨out', hl, fun m hm => ?_, P, own_setOW h1 (own_neX h1 hb) _ _, by rw [hl]; exact h2.1, fun k a c => (hr k c).2 a⟩
  obtain ⟨i, hi, rfl⟩ := List.getElem_of_mem hm
  exact (hr i hi).1
end Go.Proofs.YtncdombfhcfobaaGreat
/- The package's functions and the reference's under one contract each: the same plain function, one way. -/
namespace Go.Proofs.YtncdombfhcfobaaGreat
open Go.RowKit Go.Shelf
def itU (ms : List Mo) (c : Cp) : List It := if validCopyB ms c = true then colI (itF ms c) 100 else []
def erU (b : Bool) : Int := if b = true then 0 else 140
def UIts (l : List It) (er : Int) (w : World) (e : Ending) (w' : World) : Prop :=
  ∃ (A : Option Addr) (n c : Nat), e = .returned (.tuple #[.slice A n c, .int .i64 er]) ∧ n ≤ 9223372036854775807 ∧ SlR w' w'.heap.size 6 A n (l.flatMap cI) ∧ Below w.heap.size w w'
section
variable (A : Option Addr) (N cc : Nat) (rows : List MR) (ms : List Mo) (r : CR) (c : Cp) (w : World)
theorem u_Items (hN : N ≤ 9223372036854775807) (hr : SlR w w.heap.size 2 A N (rows.flatMap cM)) (hm : Mods w rows ms) (h : CpR w r c) :
    Calls Tryz.prog 19 #[.slice A N cc, crV r] w (UIts (itU ms c) (erU (validCopyB ms c)) w) :=
  (c_Items A N cc rows ms r c w hN hr hm h).mono fun e w' hp => by
    rcases hp with ⟨hb, ⟨hv, rfl⟩ | ⟨v, s, hv, hs, rfl, ho⟩⟩
    · unfold itU erU
      rw [hv]
      exact ⟨none, 0, 0, rfl, by omega, SlR.nil, hb⟩
    · obtain ⟨A', c', rfl, h1, h2, h3⟩ := SlR.of_own ho
      unfold itU erU
      rw [if_pos hv, if_pos hv, items_made hv hs]
      exact ⟨A', _, c', rfl, by unfold maxLen at h2; omega, h3, hb⟩
theorem u_rItems (hN : N ≤ 9223372036854775807) (hr : SlR w w.heap.size 2 A N (rows.flatMap cM)) (hm : Mods w rows ms) (h : CpR w r c) :
    Calls Tryz.prog 20 #[.slice A N cc, crV r] w (UIts (itU ms c) (erU (validCopyB ms c)) w) :=
  (c_rItems A N cc rows ms r c w hN hr hm h).mono fun e w' hp => by
    rcases hp with ⟨hb, ⟨hv, rfl⟩ | ⟨hv, v, rfl, ho⟩⟩
    · unfold itU erU
      rw [hv]
      exact ⟨none, 0, 0, rfl, by omega, SlR.nil, hb⟩
    · obtain ⟨A', c', rfl, h1, h2, h3⟩ := SlR.of_own ho
      unfold itU erU
      rw [if_pos hv, if_pos hv]
      exact ⟨A', _, c', rfl, by unfold maxLen at h2; omega, h3, hb⟩
/-! Expand -/
def exP (ms : List Mo) (c : Cp) : List (Pl × Int) := plc ms 13 (colI (itF ms c) 100) [c.code] c.x c.y
def exB (ms : List Mo) (c : Cp) : Bool := validCopyB ms c && expOk (exP ms c)
def exU (ms : List Mo) (c : Cp) : List Pl := if exB ms c = true then expB (exP ms c) else []
def UPl (l : List Pl) (er : Int) (w : World) (e : Ending) (w' : World) : Prop :=
  ∃ (A : Option Addr) (n c : Nat) (rs : List PR), e = .returned (.tuple #[.slice A n c, .int .i64 er]) ∧ n ≤ 9223372036854775807 ∧ SlR w' w'.heap.size 4 A n (rs.flatMap cP) ∧ Pls w' rs l ∧ Below w.heap.size w w'
theorem u_ex0 {ms : List Mo} {c : Cp} {w w' : World} (h : exB ms c = false) (hb : Below w.heap.size w w') : UPl (exU ms c) (erU (exB ms c)) w (.returned (.tuple #[.slice none 0 0, .int .i64 140])) w' := by
  unfold exU erU
  rw [h]
  exact ⟨none, 0, 0, [], rfl, by omega, SlR.nil, Pls.nil _, hb⟩
theorem u_Expand (hN : N ≤ 9223372036854775807) (hr : SlR w w.heap.size 2 A N (rows.flatMap cM)) (hm : Mods w rows ms) (h : CpR w r c) :
    Calls Tryz.prog 21 #[.slice A N cc, crV r] w (UPl (exU ms c) (erU (exB ms c)) w) :=
  (c_Expand A N cc rows ms r c w hN hr hm h).mono fun e w' hp => by
    rcases hp with ⟨hb, ⟨hv, rfl⟩ | ⟨s, hv, hs, hp⟩⟩
    · exact u_ex0 (by unfold exB; rw [hv]; rfl) hb
    · rw [← items_made hv hs] at hp
      rcases hp with ⟨h1, rfl⟩ | ⟨h1, A', n, d, rs, rfl, h2, h3, h4, h5⟩
      · exact u_ex0 (by unfold exB exP; rw [h1, Bool.and_false]) hb
      · have hB : exB ms c = true := by unfold exB exP; rw [hv, h1]; rfl
        unfold exU erU
        rw [if_pos hB, if_pos hB]
        exact ⟨A', n, d, rs, rfl, by omega, h4, h5, hb⟩
theorem u_rExpand (hN : N ≤ 9223372036854775807) (hr : SlR w w.heap.size 2 A N (rows.flatMap cM)) (hm : Mods w rows ms) (h : CpR w r c) :
    Calls Tryz.prog 22 #[.slice A N cc, crV r] w (UPl (exU ms c) (erU (exB ms c)) w) :=
  (c_rExpand A N cc rows ms r c w hN hr hm h).mono fun e w' hp => by
    rcases hp with ⟨hb, ⟨hv, rfl⟩ | ⟨hv, hp⟩⟩
    · exact u_ex0 (by unfold exB; rw [hv]; rfl) hb
    · rcases hp with ⟨h1, rfl⟩ | ⟨h1, A', n, d, rs, rfl, h2, h3, h4, h5⟩
      · exact u_ex0 (by unfold exB exP; rw [h1, Bool.and_false]) hb
      · have hB : exB ms c = true := by unfold exB exP; rw [hv, h1]; rfl
        unfold exU erU
        rw [if_pos hB, if_pos hB]
        exact ⟨A', n, d, rs, rfl, by omega, h4, h5, hb⟩
end
/-! Rebase -/
def zCq : Cp := ⟨0, 0, 0, 0, [], []⟩
theorem zCqR (w : World) : CpR w zCR zCq := ⟨⟨rfl, rfl, rfl, rfl⟩, ⟨Nat.le_refl _, by show 0 ≤ _; omega, SlR.nil⟩, Nat.le_refl _, by show 0 ≤ _; omega, SlR.nil⟩
def rbU (ms : List Mo) (next : Mo) (c : Cp) : Cp := if rebOk ms next c = true then rebC (byL next.items) c else zCq
def rbN (ms : List Mo) (next : Mo) (c : Cp) : List Int := if rebOk ms next c = true then sortN (contU (byL (itemsOf ms c.mod)) (byL next.items) c) else []
def URb (q : Cp) (l : List Int) (er : Int) (w : World) (e : Ending) (w' : World) : Prop :=
  ∃ (r : CR) (A : Option Addr) (n c : Nat), e = .returned (.tuple #[crV r, .slice A n c, .int .i64 er]) ∧ CpR w' r q ∧ n ≤ 9223372036854775807 ∧ SlR w' w'.heap.size 1 A n (l.flatMap cN) ∧ Below w.heap.size w w'
def URp (l : List Mo) (er : Int) (w : World) (e : Ending) (w' : World) : Prop :=
  ∃ (A : Option Addr) (n c : Nat) (rs : List MR), e = .returned (.tuple #[.slice A n c, .int .i64 er]) ∧ n ≤ 9223372036854775807 ∧ SlR w' w'.heap.size 2 A n (rs.flatMap cM) ∧ Mods w' rs l ∧ Below w.heap.size w w'
def rpU (ms : List Mo) (next : Mo) : List Mo := if rpOk ms next = true then replL next ms else []
section
variable (A : Option Addr) (N cc : Nat) (rows : List MR) (ms : List Mo) (r : MR) (next : Mo) (rc : CR) (c : Cp) (w : World)
theorem u_rb0 {ms : List Mo} {next : Mo} {c : Cp} {w w' : World} (h : rebOk ms next c = false) (hb : Below w.heap.size w w') : URb (rbU ms next c) (rbN ms next c) (erU (rebOk ms next c)) w (.returned (.tuple #[crV zCR, .slice none 0 0, .int .i64 140])) w' := by
  unfold rbU rbN erU
  rw [h]
  exact ⟨zCR, none, 0, 0, rfl, zCqR w', by omega, SlR.nil, hb⟩
theorem u_Rebase (hN : N ≤ 100000) (hr : SlR w w.heap.size 2 A N (rows.flatMap cM)) (hm : Mods w rows ms)
    (hml : ∀ m ∈ ms, m.items.length ≤ 1000000) (hnl : next.items.length ≤ 1000000) (hid : r.id = next.id) (hrs : SlR w w.heap.size 6 r.a r.n (next.items.flatMap cI)) (hC : CpR w rc c) :
    Calls Tryz.prog 25 #[.slice A N cc, mrV r, crV rc] w (URb (rbU ms next c) (rbN ms next c) (erU (rebOk ms next c)) w) :=
  (c_Rebase A N cc rows ms r next rc c w hN hr hm hml hnl hid hrs hC).mono fun e w' hp => by
    rcases hp with ⟨hb, ⟨hv, rfl⟩ | ⟨hv, q, v, rfl, h1, h2⟩⟩
    · exact u_rb0 hv hb
    · obtain ⟨A', c', rfl, k1, k2, k3⟩ := SlR.of_own h2
      unfold rbU rbN erU
      rw [if_pos hv, if_pos hv, if_pos hv]
      exact ⟨q, A', _, c', rfl, h1, by unfold maxLen at k2; omega, k3, hb⟩
theorem u_rRebase (hN : N ≤ 100000) (hr : SlR w w.heap.size 2 A N (rows.flatMap cM)) (hm : Mods w rows ms)
    (hid : r.id = next.id) (hn1 : r.n ≤ r.c) (hn2 : r.c ≤ 9223372036854775807) (hrs : SlR w w.heap.size 6 r.a r.n (next.items.flatMap cI)) (hC : CpR w rc c) :
    Calls Tryz.prog 26 #[.slice A N cc, mrV r, crV rc] w (URb (rbU ms next c) (rbN ms next c) (erU (rebOk ms next c)) w) :=
  (c_rRebase A N cc rows ms r next rc c w hN hr hm hid hn1 hn2 hrs hC).mono fun e w' hp => by
    rcases hp with ⟨hb, ⟨hv, rfl⟩ | ⟨hv, q, v, rfl, h1, h2⟩⟩
    · exact u_rb0 ((rb_ok ms next c) ▸ hv) hb
    · rw [rb_copy hv] at h1
      rw [rb_cont hv] at h2
      obtain ⟨A', c', rfl, k1, k2, k3⟩ := SlR.of_own h2
      have hv' : rebOk ms next c = true := (rb_ok ms next c) ▸ hv
      unfold rbU rbN erU
      rw [if_pos hv', if_pos hv', if_pos hv']
      exact ⟨q, A', _, c', rfl, h1, by unfold maxLen at k2; omega, k3, hb⟩
theorem u_rp0 {ms : List Mo} {next : Mo} {w w' : World} (h : rpOk ms next = false) (hb : Below w.heap.size w w') : URp (rpU ms next) (erU (rpOk ms next)) w (.returned (.tuple #[.slice none 0 0, .int .i64 140])) w' := by
  unfold rpU erU
  rw [h]
  exact ⟨none, 0, 0, [], rfl, by omega, SlR.nil, Mods.nil _, hb⟩
theorem u_Replace (hN : N ≤ 100000) (hr : SlR w w.heap.size 2 A N (rows.flatMap cM)) (hm : Mods w rows ms)
    (hml : ∀ m ∈ ms, m.items.length ≤ 1000000) (hnl : next.items.length ≤ 1000000) (hid : r.id = next.id) (hrs : SlR w w.heap.size 6 r.a r.n (next.items.flatMap cI)) :
    Calls Tryz.prog 27 #[.slice A N cc, mrV r] w (URp (rpU ms next) (erU (rpOk ms next)) w) :=
  (c_Replace A N cc rows ms r next w hN hr hm hml hnl hid hrs).mono fun e w' hp => by
    rcases hp with ⟨hb, ⟨hv, rfl⟩ | ⟨hv, A', n, d, rs, rfl, h1, h2, h3, h4⟩⟩
    · rw [← rpOk_eq] at hv
      exact u_rp0 hv hb
    · rw [← rpOk_eq] at hv
      unfold rpU erU
      rw [if_pos hv, if_pos hv]
      exact ⟨A', n, d, rs, rfl, by omega, h3, h4, hb⟩
theorem u_rReplace (hN : N ≤ 100000) (hr : SlR w w.heap.size 2 A N (rows.flatMap cM)) (hm : Mods w rows ms)
    (hid : r.id = next.id) (hn1 : r.n ≤ r.c) (hn2 : r.c ≤ 9223372036854775807) (hrs : SlR w w.heap.size 6 r.a r.n (next.items.flatMap cI)) :
    Calls Tryz.prog 28 #[.slice A N cc, mrV r] w (URp (rpU ms next) (erU (rpOk ms next)) w) :=
  (c_rReplace A N cc rows ms r next w hN hr hm hid hn1 hn2 hrs).mono fun e w' hp => by
    rcases hp with ⟨hb, ⟨hv, rfl⟩ | ⟨hv, A', n, d, rs, rfl, h1, h2, h3, h4⟩⟩
    · exact u_rp0 hv hb
    · rw [rp_eq hv] at h4
      unfold rpU erU
      rw [if_pos hv, if_pos hv]
      exact ⟨A', n, d, rs, rfl, by omega, h3, h4, hb⟩
end
/-! Merge -/
def mgI (z o t : Mo) : List It := colI (rgF z.items o.items t.items) 100
def mgB (z o t : Mo) : Bool := mergeB z o t && (inB z.id 1 20 && itsOk (mgI z o t))
def mgU (z o t : Mo) : Mo := if mgB z o t = true then ⟨z.id, mgI z o t⟩ else ⟨0, []⟩
def mgN (z o t : Mo) : List Int := if mgB z o t = true then colN (rgP z.items o.items t.items) 100 else []
def UMg (m : Mo) (l : List Int) (er : Int) (w : World) (e : Ending) (w' : World) : Prop :=
  ∃ (q : MR) (A : Option Addr) (n c : Nat), e = .returned (.tuple #[mrV q, .slice A n c, .int .i64 er]) ∧ q.id = m.id ∧ q.n ≤ 9223372036854775807 ∧ SlR w' w'.heap.size 6 q.a q.n (m.items.flatMap cI) ∧ n ≤ 9223372036854775807 ∧ SlR w' w'.heap.size 1 A n (l.flatMap cN) ∧ w'.ownsRow w.heap.size 3 1 (.slice A n c) n (l.flatMap cN) ∧ Below w.heap.size w w'
theorem mergeB_parts {z o t : Mo} (h : mergeB z o t = true) : itsOk z.items = true ∧ itsOk o.items = true ∧ itsOk t.items = true := by
  unfold mergeB at h
  simp only [Bool.and_eq_true] at h
  exact ⟨h.1.1.1.1.2, h.1.1.1.2.2, h.1.1.2.2⟩
theorem u_mg0 {z o t : Mo} {w w' : World} (h : mgB z o t = false) (hb : Below w.heap.size w w') : UMg (mgU z o t) (mgN z o t) (erU (mgB z o t)) w (.returned (.tuple #[.agg #[.int .i64 0, .slice none 0 0], .slice none 0 0, .int .i64 140])) w' := by
  unfold mgU mgN erU
  rw [h]
  exact ⟨⟨0, none, 0, 0⟩, none, 0, 0, rfl, rfl, by show 0 ≤ _; omega, SlR.nil, by omega, SlR.nil, ⟨rfl, .inl ⟨rfl, rfl⟩⟩, hb⟩
section
variable (rz ro rt : MR) (z o t : Mo) (w : World) (hez : rz.id = z.id) (heo : ro.id = o.id) (het : rt.id = t.id) (hnz : rz.n ≤ 9223372036854775807) (hno : ro.n ≤ 9223372036854775807) (hnt : rt.n ≤ 9223372036854775807)
    (hsz : SlR w w.heap.size 6 rz.a rz.n (z.items.flatMap cI)) (hso : SlR w w.heap.size 6 ro.a ro.n (o.items.flatMap cI)) (hst : SlR w w.heap.size 6 rt.a rt.n (t.items.flatMap cI))
include hez heo het hnz hno hnt hsz hso hst
theorem u_Merge : Calls Tryz.prog 35 #[mrV rz, mrV ro, mrV rt] w (UMg (mgU z o t) (mgN z o t) (erU (mgB z o t)) w) :=
  (c_Merge rz ro rt z o t w hez heo het hnz hno hnt hsz hso hst).mono fun e w' hp => by
    rcases hp with ⟨hb, ⟨hv, rfl⟩ | ⟨hv, s, hs, hp⟩⟩
    · exact u_mg0 (by unfold mgB; rw [hv]; rfl) hb
    · obtain ⟨k1, k2, k3⟩ := mergeB_parts hv
      rw [← rg_items k1 k2 k3 hs] at hp
      rcases hp with ⟨h1, rfl⟩ | ⟨h1, A', n, c, v, rfl, h2, h3, h4, h5⟩
      · exact u_mg0 (by unfold mgB mgI; rw [h1, Bool.and_false]) hb
      · have hB : mgB z o t = true := by unfold mgB mgI; rw [hv, h1]; rfl
        rw [← rgN_eq k1 k2 k3] at h5
        obtain ⟨A2, c2, rfl, j1, j2, j3⟩ := SlR.of_own h5
        unfold mgU mgN erU
        rw [if_pos hB, if_pos hB, if_pos hB]
        exact ⟨⟨z.id, A', n, c⟩, A2, _, c2, rfl, rfl, by show n ≤ _; omega, h4, by unfold maxLen at j2; omega, j3, h5, hb⟩
theorem u_rMerge : Calls Tryz.prog 36 #[mrV rz, mrV ro, mrV rt] w (UMg (mgU z o t) (mgN z o t) (erU (mgB z o t)) w) :=
  (c_rMerge rz ro rt z o t w hez heo het hnz hno hnt hsz hso hst).mono fun e w' hp => by
    rcases hp with ⟨hb, ⟨hv, rfl⟩ | ⟨hv, hp⟩⟩
    · exact u_mg0 (by unfold mgB; rw [hv]; rfl) hb
    · rcases hp with ⟨h1, rfl⟩ | ⟨h1, A', n, c, v, rfl, h2, h3, h4, h5⟩
      · exact u_mg0 (by unfold mgB mgI; rw [h1, Bool.and_false]) hb
      · have hB : mgB z o t = true := by unfold mgB mgI; rw [hv, h1]; rfl
        obtain ⟨A2, c2, rfl, j1, j2, j3⟩ := SlR.of_own h5
        unfold mgU mgN erU
        rw [if_pos hB, if_pos hB, if_pos hB]
        exact ⟨⟨z.id, A', n, c⟩, A2, _, c2, rfl, rfl, by show n ≤ _; omega, h4, by unfold maxLen at j2; omega, j3, h5, hb⟩
end
/-! Differ -/
def dfI (a b : List It) : List It := if (itsOk a && itsOk b) = true then chgL a b else []
def dfN (a b : List It) : List Int := if (itsOk a && itsOk b) = true then goneL a b else []
def UDf (l : List It) (k : List Int) (w : World) (e : Ending) (w' : World) : Prop :=
  ∃ (A : Option Addr) (n c : Nat) (B : Option Addr) (m d : Nat), e = .returned (.tuple #[.slice A n c, .slice B m d]) ∧ (n ≤ 9223372036854775807 ∧ SlR w' w'.heap.size 6 A n (l.flatMap cI)) ∧ (m ≤ 9223372036854775807 ∧ SlR w' w'.heap.size 1 B m (k.flatMap cN)) ∧ Below w.heap.size w w'
theorem u_df0 {a b : List It} {w w' : World} (h : (itsOk a && itsOk b) = false) (hb : Below w.heap.size w w') : UDf (dfI a b) (dfN a b) w (.returned (.tuple #[.slice none 0 0, .slice none 0 0])) w' := by
  unfold dfI dfN
  rw [h]
  exact ⟨none, 0, 0, none, 0, 0, rfl, ⟨by omega, SlR.nil⟩, ⟨by omega, SlR.nil⟩, hb⟩
theorem u_Differ (A : Option Addr) (n c : Nat) (l : List It) (B : Option Addr) (m d : Nat) (k : List It) (w : World) (hn : n ≤ 9223372036854775807) (hm : m ≤ 9223372036854775807) (hr : SlR w w.heap.size 6 A n (l.flatMap cI)) (hs : SlR w w.heap.size 6 B m (k.flatMap cI)) :
    Calls Tryz.prog 37 #[.slice A n c, .slice B m d] w (UDf (dfI l k) (dfN l k) w) :=
  (c_Differ A n c l B m d k w hn hm hr hs).mono fun e w' hp => by
    rcases hp with ⟨hb, ⟨hv, rfl⟩ | ⟨hv, v, u, rfl, h1, h2⟩⟩
    · exact u_df0 hv hb
    · obtain ⟨A1, c1, rfl, i1, i2, i3⟩ := SlR.of_own h1
      obtain ⟨A2, c2, rfl, j1, j2, j3⟩ := SlR.of_own h2
      unfold dfI dfN
      rw [if_pos hv, if_pos hv]
      exact ⟨A1, _, c1, A2, _, c2, rfl, ⟨by unfold maxLen at i2; omega, i3⟩, ⟨by unfold maxLen at j2; omega, j3⟩, hb⟩
theorem u_rDiffer (A : Option Addr) (n c : Nat) (l : List It) (B : Option Addr) (m d : Nat) (k : List It) (w : World) (hn : n ≤ 9223372036854775807) (hm : m ≤ 9223372036854775807) (hr : SlR w w.heap.size 6 A n (l.flatMap cI)) (hs : SlR w w.heap.size 6 B m (k.flatMap cI)) :
    Calls Tryz.prog 38 #[.slice A n c, .slice B m d] w (UDf (dfI l k) (dfN l k) w) :=
  (c_rDiffer A B n c m d l k w hn hm hr hs).mono fun e w' hp => by
    rcases hp with ⟨hb, ⟨hv, rfl⟩ | ⟨hv, v, u, rfl, h1, h2⟩⟩
    · exact u_df0 hv hb
    · have hv2 := hv
      rw [Bool.and_eq_true] at hv2
      rw [dif_chg hv2.1 hv2.2] at h1
      rw [dif_gone hv2.1 hv2.2] at h2
      obtain ⟨A1, c1, rfl, i1, i2, i3⟩ := SlR.of_own h1
      obtain ⟨A2, c2, rfl, j1, j2, j3⟩ := SlR.of_own h2
      unfold dfI dfN
      rw [if_pos hv, if_pos hv]
      exact ⟨A1, _, c1, A2, _, c2, rfl, ⟨by unfold maxLen at i2; omega, i3⟩, ⟨by unfold maxLen at j2; omega, j3⟩, hb⟩
end Go.Proofs.YtncdombfhcfobaaGreat
