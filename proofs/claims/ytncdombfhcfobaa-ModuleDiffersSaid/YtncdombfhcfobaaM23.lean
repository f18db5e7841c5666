/- Contract: the reference's Made. -/
import Derived.Test.YtncdombfhcfobaaM22
namespace Go.Proofs.Ytncdombfhcfobaa
open Go.RowKit
/-- a row of a list of lists of triples, as it lies in memory -/
structure XR where
  a : Option Addr
  n : Nat
  c : Nat
def cX (r : XR) : List Value := [.slice r.a r.n r.c]
def Xss (w : World) (rows : List XR) (xs : List (List I3)) : Prop :=
  rows.length = xs.length ∧ ∀ (k : Nat) (h : k < rows.length) (h' : k < xs.length), rows[k].n ≤ 9223372036854775807 ∧ SlR w w.heap.size 3 rows[k].a rows[k].n (xs[k].flatMap c3) ∧ ∀ a ∈ xs[k], ok3 a
theorem Xss.to {w w' : World} {rows : List XR} {xs : List (List I3)} (h : Xss w rows xs) (hb : Below w.heap.size w w') : Xss w' rows xs :=
  ⟨h.1, fun k h1 h2 => ⟨(h.2 k h1 h2).1, (h.2 k h1 h2).2.1.to' hb, (h.2 k h1 h2).2.2⟩⟩
theorem SlR.lenX {w : World} {B n : Nat} {A : Option Addr} {l : List XR} (h : SlR w B 1 A n (l.flatMap cX)) : l.length = n := by
  have := h.1
  rw [flat_len cX 1 (fun _ => rfl)] at this
  omega
theorem SlR.atX {w : World} {B n : Nat} {A : Option Addr} {l : List XR} {wr : World} (h : SlR w B 1 A n (l.flatMap cX)) (hb : Below B w wr) {k : Nat} (hk : k < l.length) :
    ∃ b off, A = some ⟨b, off, none⟩ ∧ b < B ∧ wr.cell? ⟨b, off + k, none⟩ = some (.slice l[k].a l[k].n l[k].c) := by
  obtain ⟨b, off, e, hbb, hc⟩ := h.2 (by have := h.lenX; omega)
  have g := flat_get cX 1 (fun _ => rfl) l k hk 0 (by omega)
  refine ⟨b, off, e, hbb, ?_⟩
  exact (hb.cell (p := ⟨b, _, none⟩) hbb).trans (hc k _ (by simpa [cX] using g))
def madeN (xs : List (List I3)) : Nat → List Mo
  | 0 => []
  | k + 1 => madeN xs k ++ [⟨(k : Int) + 1, givenL ((k : Int) + 1) (xs.getD k [])⟩]
def madeL (xs : List (List I3)) : List Mo := madeN xs (min xs.length 5)
theorem madeN_len (xs : List (List I3)) : ∀ k, (madeN xs k).length = k
  | 0 => rfl
  | k + 1 => by simp [madeN, madeN_len xs k]
def MadePost (xs : List (List I3)) (w : World) (e : Ending) (w' : World) : Prop :=
  ∃ v, e = .returned v ∧ RI w.heap.size v (madeL xs) w' ∧ Below w.heap.size w w'
set_option maxRecDepth 100000 in
set_option maxHeartbeats 4000000 in
theorem c_Made (A : Option Addr) (n cc : Nat) (rows : List XR) (xs : List (List I3)) (w : World) (hn : n ≤ 9223372036854775807) (hr : SlR w w.heap.size 1 A n (rows.flatMap cX)) (hx : Xss w rows xs) :
    Calls Try.prog 15 #[.slice A n cc] w (MadePost xs w) := by
  obtain ⟨i0, hi, hz0, hz1, hz2⟩ := info_parts Try.infoMod
  have hl := hr.lenX
  have hxl : xs.length = n := by rw [← hx.1]; exact hl
  have HL := hide (And.intro hl hxl)
  clear hl hxl
  go_enter Try.func15, Try.ntmps15
  go_wp2
  go_loopw [3, 4] (fun v i wr => ∃ k : Nat, k ≤ n ∧ k ≤ 5 ∧ i = .int .i64 k ∧ RI w.heap.size v (madeN xs k) wr ∧ Below w.heap.size w wr) (fun _ i _ => n - (intOf i).toNat)
  case atStart => exact ⟨0, by omega, by omega, rfl, ⟨[], World.ownsRow_nil _ _ _ _, ⟨rfl, fun k h => absurd h (by simp)⟩⟩, Below.refl _ _⟩
  case round =>
    obtain ⟨k, hk, hk5, rfl, hri, hb⟩ := hrel
    by_cases hlt : k < n
    · have hji : (k : Int) < (n : Int) := by omega
      by_cases hlt5 : k < 5
      · have hji5 : (k : Int) < 5 := by omega
        obtain ⟨hl, hxl⟩ := HL.out
        have hkl : k < rows.length := by omega
        have hkx : k < xs.length := by omega
        obtain ⟨b, off, hAe, hbb, x0⟩ := hr.atX hb hkl
        obtain ⟨e1, e2, e3⟩ := hx.2 k hkl hkx
        have HSn := hide (show madeN xs (k + 1) = madeN xs k ++ [⟨(k : Int) + 1, givenL ((k : Int) + 1) xs[k]⟩] from by simp [madeN, List.getD_eq_getElem?_getD, List.getElem?_eq_getElem hkx])
        have e4 := e2.to' hb
        rw [hAe] at *
        clear hAe hr hx hl hxl e2
        generalize rows[k] = r at *
        generalize xs[k] = x at *
        clear hkl hkx
        obtain ⟨P, ho0, hmo0⟩ := hri
        have hPl : P.length ≤ 5 := by have := hmo0.1; rw [madeN_len] at this; omega
        have HR := hide (And.intro ho0 hmo0)
        clear ho0 hmo0
        generalize madeN xs k = out at *
        have hk1 : okN ((k : Int) + 1) := ⟨by omega, by omega⟩
        go_wp2_with fail
        refine (c_Given r.a r.n r.c x ((k : Int) + 1) _ e1 e4 e3 hk1).mono ?_
        rintro e w1 ⟨v1, rfl, hown1, hb1⟩
        obtain ⟨A1, c1, rfl, hc1, hc2, hs1⟩ := SlR.of_own hown1
        generalize givenL ((k : Int) + 1) x = G at *
        have ho5 := own_bel HR.out.1 hb1
        have hm5 := HR.out.2.bel hb1
        have hb5 := bthen hb hb1
        obtain ⟨q, hq⟩ : ∃ q : MR, q = ⟨(k : Int) + 1, A1, G.length, c1⟩ := ⟨_, rfl⟩
        have gA : SlR (w1.alloc (.cells #[.int .i64 ((k : Int) + 1), .slice A1 G.length c1] 27)) (w1.alloc (.cells #[.int .i64 ((k : Int) + 1), .slice A1 G.length c1] 27)).heap.size 2 (some ⟨w1.heap.size, 0, none⟩) 1 (cM q) := by subst hq; exact slr_new _ _ rfl rfl
        have hbs := hb5.size
        have HO := hide (And.intro ho5 (And.intro hm5 (And.intro hown1 hq)))
        clear ho5 hm5 hown1 hq hs1 e4 e3
        go_wp2_with (at_builtin; refine wpList_append_sl (size := 2) rfl _ _ 42 rfl w.heap.size 27 i0 zM 32 Try.underlying42 hi hz0 hz1 hz2 rfl (by decide) _ P.length (P.flatMap cM) rfl (HO.out.1.alloc _) 1 1 (cM q) rfl gA (Below.refl _ _) (fun u hu => oneM [q] u (by simpa using hu)) (by unfold maxLen; omega) (by omega) (by simp; omega) ?_; intro v6 w6 ho6 hg6 hor6)
        go_roundw
        case rel =>
          obtain ⟨ho5, hm5, hown1, hq⟩ := HO.out
          refine ⟨k + 1, by omega, by omega, by go_num, ?_, (balloc hb5 _).grown hg6 (by simp; omega) (fun g e => (own_lt ho5 g e).1)⟩
          rw [HSn.out]
          refine RI.app (ho5.alloc _) (hm5.bel (balloc (Below.refl _ _) _)) (m := ⟨(k : Int) + 1, G⟩) (q := q) (by rw [hq]) ?_ ho6 hg6
          rw [hq]
          exact own_base (own_bel hown1 (balloc (Below.refl _ _) _)) (Nat.zero_le _)
        case measure => simp [intOf]; omega
      · obtain rfl : k = 5 := by omega
        have hm : madeL xs = madeN xs 5 := by unfold madeL; rw [HL.out.2, Nat.min_eq_right (by omega)]
        rw [← hm] at hri
        have HV := hide hri
        clear hr hx hri hm
        go_wp2_with fail
        go_ret
        exact ⟨_, rfl, HV.out, hb⟩
    · obtain rfl : k = n := by omega
      have hm : madeL xs = madeN xs k := by unfold madeL; rw [HL.out.2, Nat.min_eq_left (by omega)]
      rw [← hm] at hri
      have HV := hide hri
      clear hr hx hri hm
      go_wp2_with fail
      go_ret
      exact ⟨_, rfl, HV.out, hb⟩
end Go.Proofs.Ytncdombfhcfobaa
