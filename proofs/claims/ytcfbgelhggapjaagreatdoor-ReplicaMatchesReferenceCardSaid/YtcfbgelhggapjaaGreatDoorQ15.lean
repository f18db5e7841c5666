/- Plain words on the encoding of integers: groups of seven bits, the least one first. No program here. -/
import Derived.Test.YtcfbgelhggapjaaGreatDoorQ1
import Derived.Test.YtcfbgelhggapjaaGreatDoorProg
import Derived.Test.YtcfbgelhggapjaaGreatDoorQ3
import Derived.Deep.RegionHeld3
import Derived.Laws.Closers25b
import Derived.Shelf.Abstract
import Derived.IntWalk
import Derived.Laws.IdiomStrings
import Derived.Laws.Shifts
import Derived.BigRegion
import Derived.Deep.DeepCutAuto
import Derived.Laws.BitsAllLaws
import Derived.Laws.BitsLemmas
import Derived.Laws.Bits64b
import Derived.Laws.DeepNot64
import Derived.Lib.EndianBits
import Derived.RangeFuncNested
import Derived.RangeFuncBound
import Derived.RangeFuncCalls
import Derived.RangeFuncLeaves
import Derived.Shelf.RegionOpen
import Derived.Maps.OwnIn
import Derived.OwnWalkIn
import Derived.TacticsInMore
import Derived.LoopNIn
import Derived.LoopIn
import Derived.BigGuardIn
import Derived.BigGuardPartIn
import Derived.Deep.LoopGhost
import Derived.Laws.Bits128
namespace Go.Proofs.YtcfbgelhggapjaaGreatDoor
def encG (z : Nat) : List Nat := if z < 128 then [z] else (z % 128 + 128) :: encG (z / 128)
termination_by z
decreasing_by omega
theorem encG_lt {z : Nat} (h : z < 128) : encG z = [z] := by rw [encG, if_pos h]
theorem encG_ge {z : Nat} (h : ¬ z < 128) : encG z = (z % 128 + 128) :: encG (z / 128) := by rw [encG, if_neg h]
def maxI : Int := 4611686018427387903
def zz (n : Int) : Nat := if n < 0 then (2 * (-n) - 1).toNat else (2 * n).toNat
def uz (z : Nat) : Int := if z % 2 = 1 then -((z / 2 : Nat) : Int) - 1 else ((z / 2 : Nat) : Int)
theorem uz_zz (n : Int) : uz (zz n) = n := by
  unfold uz zz
  split <;> split <;> omega
theorem zz_uz (z : Nat) : zz (uz z) = z := by
  unfold uz zz
  split <;> split <;> omega
def valG : List Nat → Nat
  | [] => 0
  | g :: l => g % 128 + 128 * valG l
theorem valG_snoc (l : List Nat) (g : Nat) : valG (l ++ [g]) = valG l + g % 128 * 128 ^ l.length := by
  induction l with
  | nil => simp [valG]
  | cons x l ih =>
    simp only [List.cons_append, valG, ih, List.length_cons, Nat.pow_succ]
    rw [Nat.mul_add, ← Nat.add_assoc, Nat.mul_left_comm, Nat.mul_comm 128 (128 ^ l.length)]
theorem valG_lt (l : List Nat) : valG l < 128 ^ l.length := by
  induction l with
  | nil => simp [valG]
  | cons x l ih =>
    simp only [valG, List.length_cons, Nat.pow_succ]
    have : x % 128 < 128 := Nat.mod_lt _ (by decide)
    omega
/-- groups as a number has them: all but the last are marked -/
def GG (l : List Nat) : Prop := ∃ a g, l = a ++ [g] ∧ (∀ x ∈ a, 128 ≤ x ∧ x < 256) ∧ g < 128
theorem valG_encG : ∀ (z : Nat), valG (encG z) = z := by
  intro z
  induction z using Nat.strongRecOn with
  | _ z ih =>
    by_cases h : z < 128
    · rw [encG_lt h]; simp [valG]; omega
    · rw [encG_ge h, valG, ih (z / 128) (by omega)]; omega
theorem encG_ne (z : Nat) : encG z ≠ [] := by rw [encG]; split <;> simp
theorem encG_pos (z : Nat) : 0 < (encG z).length := List.length_pos_iff.2 (encG_ne z)
theorem encG_gg : ∀ (z : Nat), ∃ a g, encG z = a ++ [g] ∧ (∀ x ∈ a, 128 ≤ x ∧ x < 256) ∧ g < 128 ∧ (g = 0 → a = []) := by
  intro z
  induction z using Nat.strongRecOn with
  | _ z ih =>
    by_cases h : z < 128
    · exact ⟨[], z, by rw [encG_lt h]; rfl, by simp, h, fun _ => rfl⟩
    · obtain ⟨a, g, h1, h2, h3, h4⟩ := ih (z / 128) (by omega)
      refine ⟨(z % 128 + 128) :: a, g, by rw [encG_ge h, h1]; rfl, fun x hx => ?_, h3, fun h0 => ?_⟩
      · rcases List.mem_cons.1 hx with rfl | hx
        · omega
        · exact h2 x hx
      · exfalso
        have ha := h4 h0
        rw [ha, h0] at h1
        have := valG_encG (z / 128)
        rw [h1] at this
        simp [valG] at this
        omega
/-- groups are those of their number just if the last one is not zero, or the only one -/
theorem encG_val : ∀ (a : List Nat) (g : Nat), (∀ x ∈ a, 128 ≤ x ∧ x < 256) → g < 128 → (encG (valG (a ++ [g])) = a ++ [g] ↔ (g = 0 → a = []))
  | [], g, _, hg => by simp [valG, Nat.mod_eq_of_lt hg, encG_lt hg]
  | x :: a, g, ha, hg => by
    have ih := encG_val a g (fun y hy => ha y (List.mem_cons_of_mem _ hy)) hg
    have hx := ha x (List.mem_cons_self ..)
    constructor
    · intro h h0
      exfalso
      obtain ⟨a', g', h1, _, h3, h4⟩ := encG_gg (valG (x :: a ++ [g]))
      rw [h] at h1
      have hl := congrArg List.getLast? h1
      simp at hl
      have hl2 : g = g' := by
        have h5 : ((x :: a) ++ [g]).getLast? = (a' ++ [g']).getLast? := by rw [← h1]
        rw [List.getLast?_append, List.getLast?_append] at h5
        simpa using h5
      have ha' := h4 (by omega)
      have h6 := congrArg List.length h1
      rw [ha'] at h6
      simp at h6
    · intro h0
      have hg0 : g ≠ 0 := fun e => by simpa using h0 e
      have h1 := ih.2 (fun e => absurd e hg0)
      have hv : 0 < valG (a ++ [g]) := by
        rcases Nat.eq_zero_or_pos (valG (a ++ [g])) with h | h
        · rw [h, encG_lt (by decide)] at h1
          cases a with
          | nil => simp at h1; omega
          | cons y a =>
            have h6 := congrArg List.length h1
            simp at h6
        · exact h
      have e : valG (x :: a ++ [g]) = x % 128 + 128 * valG (a ++ [g]) := rfl
      rw [e, encG_ge (by omega)]
      have e1 : (x % 128 + 128 * valG (a ++ [g])) % 128 + 128 = x := by omega
      have e2 : (x % 128 + 128 * valG (a ++ [g])) / 128 = valG (a ++ [g]) := by omega
      rw [e1, e2, h1]; rfl
/-- what lies at the beginning of a list of bytes -/
def prs (bs : List Nat) : Nat → Nat → Nat → Option (Int × Nat)
  | 0, _, _ => none
  | k + 1, i, z => match bs[i]? with
    | none => none
    | some b => if 128 ≤ b then prs bs k (i + 1) (z + b % 128 * 128 ^ i)
      else if (b = 0 ∧ 0 < i) ∨ uz (z + b % 128 * 128 ^ i) < -maxI then none else some (uz (z + b % 128 * 128 ^ i), i + 1)
theorem prs_some {bs : List Nat} (hb : ∀ b ∈ bs, b < 256) : ∀ (k i : Nat) (n : Int) (m : Nat), (∀ b ∈ bs.take i, 128 ≤ b) → i ≤ bs.length → prs bs k i (valG (bs.take i)) = some (n, m) → i < m ∧ m ≤ i + k ∧ m ≤ bs.length ∧ bs.take m = encG (zz n) ∧ -maxI ≤ n
  | 0, i, n, m, _, _, h => by simp [prs] at h
  | k + 1, i, n, m, hi, hl, h => by
    unfold prs at h
    by_cases hil : i < bs.length
    · rw [List.getElem?_eq_getElem hil] at h
      dsimp only at h
      have hs : bs.take (i + 1) = bs.take i ++ [bs[i]] := List.take_succ_eq_append_getElem hil
      have hv : valG (bs.take (i + 1)) = valG (bs.take i) + bs[i] % 128 * 128 ^ i := by
        rw [hs, valG_snoc, List.length_take, Nat.min_eq_left (by omega)]
      rw [← hv] at h
      by_cases hb8 : 128 ≤ bs[i]
      · rw [if_pos hb8] at h
        obtain ⟨h1, h2, h3⟩ := prs_some hb k (i + 1) n m (fun b hb' => by
          rw [hs, List.mem_append, List.mem_singleton] at hb'
          rcases hb' with h | rfl
          · exact hi b h
          · exact hb8) (by omega) h
        exact ⟨by omega, by omega, h3⟩
      · rw [if_neg hb8] at h
        split at h
        · cases h
        · rename_i hc
          simp only [Option.some.injEq, Prod.mk.injEq] at h
          obtain ⟨rfl, rfl⟩ := h
          refine ⟨by omega, by omega, by omega, ?_, by omega⟩
          rw [zz_uz, hs]
          symm
          apply (encG_val _ _ (fun x hx => ⟨hi x hx, hb x (List.mem_of_mem_take hx)⟩) (by omega)).2
          intro h0
          have : ¬ 0 < i := fun h => hc (.inl ⟨h0, h⟩)
          have : i = 0 := by omega
          rw [this]; rfl
    · rw [List.getElem?_eq_none (by omega)] at h
      cases h
theorem zz_lt {n : Int} (h : -maxI ≤ n) (h2 : n ≤ maxI) : zz n < 2 ^ 63 := by
  unfold zz maxI at *
  split <;> omega
theorem encG_len : ∀ (k z : Nat), z < 128 ^ (k + 1) → (encG z).length ≤ k + 1
  | 0, z, h => by rw [encG_lt (by simpa using h)]; simp
  | k + 1, z, h => by
    by_cases hz : z < 128
    · rw [encG_lt hz]; simp
    · rw [encG_ge hz, List.length_cons]
      have := encG_len k (z / 128) (by rw [Nat.pow_succ] at h; omega)
      omega
theorem prs_enc (n : Int) (rest : List Nat) (h1 : -maxI ≤ n) (h2 : n ≤ maxI) : prs (encG (zz n) ++ rest) 9 0 0 = some (n, (encG (zz n)).length) := by
  obtain ⟨a, g, e, ha, hg, h0⟩ := encG_gg (zz n)
  have hlen := encG_len 8 (zz n) (Nat.lt_of_lt_of_le (zz_lt h1 h2) (by decide))
  have hv : valG (a ++ [g]) = zz n := by rw [← e, valG_encG]
  rw [e] at hlen ⊢
  generalize hbs : a ++ [g] ++ rest = bs
  have htk : ∀ i, i ≤ a.length → bs.take i = a.take i := fun i hi => by rw [← hbs, List.append_assoc, List.take_append_of_le_length hi]
  have key : ∀ (k i : Nat), i + k = 9 → i ≤ a.length → prs bs k i (valG (bs.take i)) = some (n, (a ++ [g]).length) := by
    intro k
    induction k with
    | zero => intro i hi hia; simp at hlen; omega
    | succ k ih =>
      intro i hi hia
      unfold prs
      by_cases hlt : i < a.length
      · have hg? : bs[i]? = some a[i] := by rw [← hbs, List.append_assoc, List.getElem?_append_left hlt, List.getElem?_eq_getElem hlt]
        rw [hg?]
        dsimp only
        rw [if_pos (ha _ (List.getElem_mem hlt)).1]
        have hs : a.take (i + 1) = a.take i ++ [a[i]] := List.take_succ_eq_append_getElem hlt
        have : valG (bs.take i) + a[i] % 128 * 128 ^ i = valG (bs.take (i + 1)) := by
          rw [htk i hia, htk (i + 1) hlt, hs, valG_snoc, List.length_take, Nat.min_eq_left hia]
        rw [this]
        exact ih (i + 1) (by omega) hlt
      · obtain rfl : i = a.length := by omega
        have hg? : bs[a.length]? = some g := by rw [← hbs, List.append_assoc, List.getElem?_append_right (Nat.le_refl _)]; simp
        rw [hg?]
        dsimp only
        rw [if_neg (by omega)]
        have : valG (bs.take a.length) + g % 128 * 128 ^ a.length = zz n := by
          rw [htk _ (Nat.le_refl _), List.take_length, ← hv, valG_snoc]
        rw [this, uz_zz, if_neg]
        · simp
        · rintro (⟨e0, e1⟩ | h)
          · rw [h0 e0] at e1; simp at e1
          · omega
  have := key 9 0 rfl (Nat.zero_le _)
  simpa [valG] using this
end Go.Proofs.YtcfbgelhggapjaaGreatDoor
/- Plain words on the encoding of records: strings as lists of bytes, integers and strings at an offset, records. No program here. -/
namespace Go.Proofs.YtcfbgelhggapjaaGreatDoor
def bN (s : ByteArray) : List Nat := s.data.toList.map (·.toNat)
def nB (l : List Nat) : ByteArray := ⟨(l.map UInt8.ofNat).toArray⟩
theorem bN_nB {l : List Nat} (h : ∀ x ∈ l, x < 256) : bN (nB l) = l := by
  unfold bN nB
  simp only [List.map_map]
  conv => rhs; rw [← List.map_id l]
  refine List.map_congr_left fun x hx => ?_
  have := h x hx
  simp [UInt8.toNat_ofNat']
  omega
theorem ba_ext {a b : ByteArray} (h : a.data = b.data) : a = b := by cases a; cases b; simp only at h; rw [h]
theorem bN_inj {a b : ByteArray} (h : bN a = bN b) : a = b := by
  unfold bN at h
  have := List.map_inj_right (f := UInt8.toNat) (fun x y h => UInt8.toNat_inj.1 h) |>.1 h
  exact ba_ext (Array.toList_inj.1 this)
theorem nB_bN (s : ByteArray) : nB (bN s) = s := bN_inj (bN_nB (fun x hx => by
  unfold bN at hx
  obtain ⟨u, _, rfl⟩ := List.mem_map.1 hx
  exact u.toNat_lt))
theorem bN_append (a b : ByteArray) : bN (a ++ b) = bN a ++ bN b := by
  unfold bN; rw [ByteArray.data_append]; simp
theorem bN_len (s : ByteArray) : (bN s).length = s.size := by unfold bN; simp
theorem bN_extract (s : ByteArray) (i j : Nat) : bN (s.extract i j) = ((bN s).drop i).take (j - i) := by
  unfold bN
  rw [ByteArray.data_extract, Array.toList_extract, List.extract_eq_take_drop, List.map_take, List.map_drop]
theorem bN_lt (s : ByteArray) : ∀ x ∈ bN s, x < 256 := fun x hx => by
  unfold bN at hx
  obtain ⟨u, _, rfl⟩ := List.mem_map.1 hx
  exact u.toNat_lt
theorem bN_get (s : ByteArray) (i : Nat) (h : i < s.size) : (bN s)[i]? = some (s.data[i]'h).toNat := by
  unfold bN
  rw [List.getElem?_map, Array.getElem?_toList, Array.getElem?_eq_getElem h]
  rfl
theorem encG_256 (z : Nat) : ∀ x ∈ encG z, x < 256 := by
  obtain ⟨a, g, h1, h2, h3, _⟩ := encG_gg z
  rw [h1]
  intro x hx
  rcases List.mem_append.1 hx with h | h
  · exact (h2 x h).2
  · rw [List.mem_singleton] at h; omega
def encI (n : Int) : ByteArray := nB (encG (zz n))
theorem bN_encI (n : Int) : bN (encI n) = encG (zz n) := bN_nB (encG_256 _)
/-- the integer at an offset: itself, and where it ends -/
def decI (s : ByteArray) (a : Nat) : Option (Int × Nat) := (prs ((bN s).drop a) 9 0 0).map fun p => (p.1, a + p.2)
theorem decI_enc {s : ByteArray} {a : Nat} {n : Int} {rest : List Nat} (h : (bN s).drop a = encG (zz n) ++ rest) (h1 : -maxI ≤ n) (h2 : n ≤ maxI) : decI s a = some (n, a + (encG (zz n)).length) := by
  unfold decI
  rw [h, prs_enc n rest h1 h2]
  rfl
theorem decI_some {s : ByteArray} {a : Nat} {n : Int} {m : Nat} (ha : a ≤ s.size) (h : decI s a = some (n, m)) : a < m ∧ m ≤ s.size ∧ m ≤ a + 9 ∧ ((bN s).drop a).take (m - a) = encG (zz n) ∧ -maxI ≤ n := by
  unfold decI at h
  rw [Option.map_eq_some_iff] at h
  obtain ⟨⟨n', m'⟩, h1, h2⟩ := h
  simp only [Prod.mk.injEq] at h2
  obtain ⟨rfl, rfl⟩ := h2
  obtain ⟨g1, g2, g3, g4, g5⟩ := prs_some (bs := (bN s).drop a) (fun b hb => bN_lt s b (List.mem_of_mem_drop hb)) 9 0 n' m' (by simp) (Nat.zero_le _) (by simpa [valG] using h1)
  rw [List.length_drop, bN_len] at g3
  exact ⟨by omega, by omega, by omega, by rw [show a + m' - a = m' by omega]; exact g4, g5⟩
def encS (t : ByteArray) : ByteArray := encI t.size ++ t
def decS (s : ByteArray) (a : Nat) : Option (ByteArray × Nat) := match decI s a with
  | some (n, m) => if n < 0 ∨ n > 65536 ∨ n > (s.size : Int) - m then none else some (s.extract m (m + n.toNat), m + n.toNat)
  | none => none
theorem decS_enc {s : ByteArray} {a : Nat} {t : ByteArray} {rest : List Nat} (h : (bN s).drop a = bN (encS t) ++ rest) (ht : t.size ≤ 65536) : decS s a = some (t, a + (encS t).size) := by
  unfold encS at h
  rw [bN_append, bN_encI, List.append_assoc] at h
  have h1 := decI_enc h (by unfold maxI; omega) (by unfold maxI; omega)
  have hl := congrArg List.length h
  rw [List.length_drop, bN_len, List.length_append, List.length_append, bN_len] at hl
  have hp := encG_pos (zz (t.size : Int))
  have he : (encS t).size = (encG (zz (t.size : Int))).length + t.size := by
    rw [← bN_len]; unfold encS; rw [bN_append, bN_encI, List.length_append, bN_len]
  unfold decS
  rw [h1]
  dsimp only
  rw [if_neg (by omega)]
  simp only [Int.toNat_natCast, Option.some.injEq, Prod.mk.injEq]
  refine ⟨?_, by omega⟩
  apply bN_inj
  rw [bN_extract, show ∀ x y : Nat, x + y - x = y from fun x y => by omega, ← List.drop_drop, h, List.drop_left, ← bN_len, List.take_left]
theorem decS_some {s : ByteArray} {a : Nat} {t : ByteArray} {m : Nat} (ha : a ≤ s.size) (h : decS s a = some (t, m)) : a < m ∧ m ≤ s.size ∧ ((bN s).drop a).take (m - a) = bN (encS t) ∧ t.size ≤ 65536 := by
  unfold decS at h
  split at h
  · rename_i n k hk
    split at h
    · cases h
    · rename_i hc
      simp only [Option.some.injEq, Prod.mk.injEq] at h
      obtain ⟨rfl, rfl⟩ := h
      obtain ⟨g1, g2, g3, g4, g5⟩ := decI_some ha hk
      have hsz : (s.extract k (k + n.toNat)).size = n.toNat := by rw [ByteArray.size_extract]; omega
      refine ⟨by omega, by omega, ?_, by omega⟩
      unfold encS
      rw [bN_append, bN_encI, hsz, show ((n.toNat : Nat) : Int) = n by omega, ← g4, bN_extract, show k + n.toNat - a = (k - a) + n.toNat by omega, List.take_add, List.drop_drop, show a + (k - a) = k by omega, show k + n.toNat - k = n.toNat by omega]
  · cases h
/-- the encoding of a record, and back -/
def encR (r : Rc) : ByteArray := ByteArray.empty ++ encI r.pen ++ encI r.num ++ encI r.at_ ++ encI (r.of + 1) ++ encI r.which ++ encI r.kind ++ encS r.text
def encM (r : Rc) : Option ByteArray := if fmB r then some (encR r) else none
def decM (s : ByteArray) : Option Rc := match decI s 0 with
  | none => none
  | some (p, a1) => match decI s a1 with
  | none => none
  | some (n, a2) => match decI s a2 with
  | none => none
  | some (t, a3) => match decI s a3 with
  | none => none
  | some (o, a4) => match decI s a4 with
  | none => none
  | some (w, a5) => match decI s a5 with
  | none => none
  | some (k, a6) => match decS s a6 with
  | none => none
  | some (x, a7) => if a7 = s.size ∧ fmB ⟨p, n, t, o - 1, w, k, x⟩ = true then some ⟨p, n, t, o - 1, w, k, x⟩ else none
theorem bN_encR (r : Rc) : bN (encR r) = encG (zz r.pen) ++ (encG (zz r.num) ++ (encG (zz r.at_) ++ (encG (zz (r.of + 1)) ++ (encG (zz r.which) ++ (encG (zz r.kind) ++ (bN (encS r.text) ++ [])))))) := by
  unfold encR
  simp only [bN_append, bN_encI, List.append_assoc, List.append_nil]
  rfl
theorem fm_all {r : Rc} (h : fmB r = true) : -1 ≤ r.of ∧ r.of ≤ 39 ∧ 0 ≤ r.which ∧ r.which ≤ 150 := by
  rcases fm_tgt h with g | ⟨_, g1, g2, g3, g4, _⟩
  · simp [rootB] at g; omega
  · omega
theorem dec_enc {r : Rc} (h : fmB r = true) : decM (encR r) = some r := by
  obtain ⟨h1, h2, h3, h4, h5, h6, h7, h8, h9⟩ := fm_num h
  obtain ⟨k1, k2, k3, k4⟩ := fm_all h
  have e := bN_encR r
  have d1 := decI_enc (s := encR r) (a := 0) e (by unfold maxI; omega) (by unfold maxI; omega)
  have e2 := congrArg (List.drop (encG (zz r.pen)).length) e
  rw [List.drop_left] at e2
  have d2 := decI_enc e2 (by unfold maxI; omega) (by unfold maxI; omega)
  have e3 := congrArg (List.drop (encG (zz r.num)).length) e2
  rw [List.drop_left, List.drop_drop] at e3
  have d3 := decI_enc e3 (by unfold maxI; omega) (by unfold maxI; omega)
  have e4 := congrArg (List.drop (encG (zz r.at_)).length) e3
  rw [List.drop_left, List.drop_drop] at e4
  have d4 := decI_enc e4 (by unfold maxI; omega) (by unfold maxI; omega)
  have e5 := congrArg (List.drop (encG (zz (r.of + 1))).length) e4
  rw [List.drop_left, List.drop_drop] at e5
  have d5 := decI_enc e5 (by unfold maxI; omega) (by unfold maxI; omega)
  have e6 := congrArg (List.drop (encG (zz r.which)).length) e5
  rw [List.drop_left, List.drop_drop] at e6
  have d6 := decI_enc e6 (by unfold maxI; omega) (by unfold maxI; omega)
  have e7 := congrArg (List.drop (encG (zz r.kind)).length) e6
  rw [List.drop_left, List.drop_drop] at e7
  have d7 := decS_enc e7 (by omega)
  have hl := congrArg List.length e7
  rw [List.length_drop, bN_len, List.append_nil, bN_len] at hl
  have hp : 0 < (encS r.text).size := by
    unfold encS; rw [← bN_len, bN_append, bN_encI, List.length_append]
    have := encG_pos (zz (r.text.size : Int))
    omega
  unfold decM
  rw [Nat.zero_add] at d1
  rw [d1]; dsimp only
  rw [d2]; dsimp only
  rw [d3]; dsimp only
  rw [d4]; dsimp only
  rw [d5]; dsimp only
  rw [d6]; dsimp only
  rw [d7]; dsimp only
  rw [show r.of + 1 - 1 = r.of by omega, if_pos ⟨by omega, h⟩]
theorem cut_take {l : List Nat} {a b : Nat} (h : a ≤ b) : l.take b = l.take a ++ (l.drop a).take (b - a) := by
  conv => lhs; rw [show b = a + (b - a) by omega, List.take_add]
theorem enc_dec {s : ByteArray} {r : Rc} (h : decM s = some r) : fmB r = true ∧ encR r = s := by
  unfold decM at h
  split at h
  · cases h
  rename_i p a1 h1
  split at h
  · cases h
  rename_i n a2 h2
  split at h
  · cases h
  rename_i t a3 h3
  split at h
  · cases h
  rename_i o a4 h4
  split at h
  · cases h
  rename_i w a5 h5
  split at h
  · cases h
  rename_i k a6 h6
  split at h
  · cases h
  rename_i x a7 h7
  split at h
  · rename_i hc
    simp only [Option.some.injEq] at h
    subst h
    refine ⟨hc.2, ?_⟩
    obtain ⟨b1, c1, _, g1, _⟩ := decI_some (Nat.zero_le _) h1
    obtain ⟨b2, c2, _, g2, _⟩ := decI_some c1 h2
    obtain ⟨b3, c3, _, g3, _⟩ := decI_some c2 h3
    obtain ⟨b4, c4, _, g4, _⟩ := decI_some c3 h4
    obtain ⟨b5, c5, _, g5, _⟩ := decI_some c4 h5
    obtain ⟨b6, c6, _, g6, _⟩ := decI_some c5 h6
    obtain ⟨b7, c7, g7, _⟩ := decS_some c6 h7
    apply bN_inj
    rw [bN_encR]
    dsimp only
    rw [show o - 1 + 1 = o by omega, ← g1, ← g2, ← g3, ← g4, ← g5, ← g6, ← g7, List.append_nil]
    conv => rhs; rw [← List.take_length (l := bN s), bN_len, ← hc.1, cut_take (show a6 ≤ a7 by omega), cut_take (show a5 ≤ a6 by omega), cut_take (show a4 ≤ a5 by omega), cut_take (show a3 ≤ a4 by omega), cut_take (show a2 ≤ a3 by omega), cut_take (show a1 ≤ a2 by omega)]
    simp only [List.append_assoc, List.drop_zero, Nat.sub_zero]
  · cases h
end Go.Proofs.YtcfbgelhggapjaaGreatDoor
/- Replica: the reference's zigzag, PutInt, PutString. -/
namespace Go.Proofs.YtcfbgelhggapjaaGreatDoor
open Go.RowKit Go.Shelf
theorem u64w (n : Int) : IntKind.u64.wrap n = n % 18446744073709551616 := by simp [IntKind.wrap, IntKind.bits, IntKind.signed]
set_option maxRecDepth 100000 in
set_option maxHeartbeats 2000000 in
theorem c_qzigzag (n : Int) (w : World) (h1 : -maxI ≤ n) (h2 : n ≤ maxI) : Calls Tryz.prog 92 #[.int .i64 n] w fun e w' => e = .returned (.int .u64 (zz n)) ∧ w = w' := by
  unfold maxI at h1 h2
  by_cases hn : n < 0
  · have HE := hide (show ((zz n : Nat) : Int) = 2 * (-n) - 1 by unfold zz; rw [if_pos hn]; omega)
    go_enter Tryz.func92, Tryz.ntmps92
    go_wp2
    go_ret
    refine ⟨?_, rfl⟩
    rw [HE.out, show 2 * -n - 1 = -n * 2 - 1 by omega]
    rfl
  · have HE := hide (show ((zz n : Nat) : Int) = 2 * n by unfold zz; rw [if_neg hn]; omega)
    go_enter Tryz.func92, Tryz.ntmps92
    go_wp2
    go_ret
    refine ⟨?_, rfl⟩
    rw [HE.out, show 2 * n = n * 2 by omega]
    rfl
/-- bytes in memory -/
def bV (l : List Nat) : List Value := l.map (fun b : Nat => Value.int .u8 (b : Int))
theorem oneB (l : List Nat) (u : Value) (h : u ∈ bV l) : u.oneCell' = true := by
  obtain ⟨b, _, rfl⟩ := List.mem_map.1 h
  rfl
theorem Tryz.infoByte : (Tryz.prog.info? 5).map (fun i => (i.zero, i.size, i.bytes)) = some (some (.int .u8 0), 1, 1) := by kernel_rfl
theorem conv_bytes {wr : World} {A : Option Addr} {n : Nat} {l : List Nat} (h : SlR wr wr.heap.size 1 A n (bV l)) (hn : 0 < n) (hl : ∀ x ∈ l, x < 256) (c : Nat) :
    (convert 63 9 (.slice A n c)).run Tryz.prog wr = .ok (.string (nB l)) wr := by
  obtain ⟨b, off, rfl, hb, hc⟩ := h.2 hn
  have hlen : l.length = n := by have := h.1; unfold bV at this; simpa using this
  have := run_convert_bytes_back (P := Tryz.prog) wr 63 9 5 ⟨b, off, none⟩ c (l.map UInt8.ofNat) Tryz.underlying63 Tryz.underlying5 Tryz.underlying9 (fun j hj => by
    rw [List.length_map] at hj
    have h1 := hc j (.int .u8 (l[j] : Int)) (by unfold bV; simp [hj])
    have h2 := hl _ (List.getElem_mem hj)
    rw [addr_add, h1, List.getElem_map, UInt8.toNat_ofNat']
    have h3 : l[j] % 2 ^ 8 = l[j] := by omega
    rw [h3])
  rw [List.length_map, hlen] at this
  exact this
/-- the answer of PutInt and PutString -/
def StrPost (o : Option ByteArray) (w : World) (e : Ending) (w' : World) : Prop :=
  Below w.heap.size w w' ∧ e = .returned (.tuple #[.string (o.getD ⟨#[]⟩), .int .i64 (if o.isSome then 0 else 10)])
def putI (n : Int) : Option ByteArray := if -maxI ≤ n ∧ n ≤ maxI then some (encI n) else none
set_option linter.unusedSimpArgs false in
set_option maxRecDepth 100000 in
set_option maxHeartbeats 4000000 in
theorem c_qPutInt (n : Int) (w : World) : Calls Tryz.prog 72 #[.int .i64 n] w (StrPost (putI n) w) := by
  by_cases h1 : n < -maxI
  · have HE := hide (show putI n = none by unfold putI; rw [if_neg (by omega)])
    unfold maxI at h1
    go_enter Tryz.func72, Tryz.ntmps72
    go_wp2
    go_ret2
    rw [HE.out]
    exact ⟨Below.refl _ _, rfl⟩
  by_cases h2 : n > maxI
  · have HE := hide (show putI n = none by unfold putI; rw [if_neg (by omega)])
    unfold maxI at h1 h2
    go_enter Tryz.func72, Tryz.ntmps72
    go_wp2
    go_ret2
    rw [HE.out]
    exact ⟨Below.refl _ _, rfl⟩
  have HE := hide (show putI n = some (nB (encG (zz n))) by unfold putI; rw [if_pos ⟨by omega, by omega⟩]; rfl)
  have hz := c_qzigzag n w (by omega) (by omega)
  have hzl := zz_lt (n := n) (by omega) (by omega)
  unfold maxI at h1 h2
  have hn1 : ¬ n < -4611686018427387903 := by omega
  have hn2 : ¬ 4611686018427387903 < n := by omega
  have hn3 : -4611686018427387903 ≤ n := by omega
  have hn4 : n ≤ 4611686018427387903 := by omega
  obtain ⟨j0, hj0, hz0, hz1, hz2⟩ := info_parts Tryz.infoByte
  generalize zz n = z0 at *
  clear h1 h2
  go_enter Tryz.func72, Tryz.ntmps72
  go_wp2_with (go_at_call 92; refine hz.mono ?_; clear hz; rintro e w1 ⟨rfl, rfl⟩)
  go_loopw [4, 5] (fun zv v wr => ∃ (z : Nat) (pre : List Nat), zv = .int .u64 z ∧ z < 2 ^ 63 ∧ pre ++ encG z = encG z0 ∧ (∀ x ∈ pre, x < 256) ∧ z * 128 ^ pre.length ≤ z0 ∧ pre.length ≤ 9 ∧ wr.ownsRow w.heap.size 5 1 v pre.length (bV pre) ∧ Below w.heap.size w wr) (fun zv _ _ => (intOf zv).toNat)
  case atStart => exact ⟨z0, [], rfl, hzl, rfl, by simp, by simp, by simp, (by exact World.ownsRow_nil _ _ _ _), Below.refl _ _⟩
  case round =>
    obtain ⟨z, pre, rfl, hzl2, hpre, hlt, hpow, hp9, hown, hb⟩ := hrel
    obtain ⟨Av, cv, rfl, hv1, hv2, hv3⟩ := SlR.of_own hown
    have hww := hb.size
    by_cases h128 : z < 128
    · have hnz : ¬ (128 ≤ z) := by omega
      have hnz2 : ¬ (128 ≤ (z : Int)) := by omega
      have HP := hide (show encG z0 = pre ++ [z] by rw [← hpre, encG_lt h128])
      have HLT := hide hlt
      have HO := hide (And.intro hown hb)
      have gA := (Blk.new wr 5 [.int .u8 (z : Int)]).slr (k := 1) (n := 1) rfl
      have hown7 := hown.alloc (.cells #[.int .u8 (z : Int)] 5)
      clear hpre hlt hpow hv3 hb hown
      generalize hp : pre.length = m at *
      have HPL := hide hp
      clear hp
      go_wp2_with (at_builtin; refine wpList_append_sl (size := 1) rfl _ _ 63 rfl w.heap.size 5 j0 (.int .u8 0) 1 Tryz.underlying63 hj0 hz0 hz1 hz2 rfl (by decide) (.slice Av m cv) m (bV pre) rfl hown7 1 1 [.int .u8 (z : Int)] rfl gA (Below.refl _ _) (fun u hu => oneB [z] u (by simpa [bV] using hu)) (by unfold maxLen; omega) (by omega) (by simp; omega) ?_; intro v8 w8 hown8 hgrow8 hor8; obtain ⟨Aw, cw, rfl, hcw1, hcw2, hs8⟩ := SlR.of_own hown8; rw [show bV pre ++ [Value.int .u8 (z : Int)] = bV (encG z0) by rw [HP.out]; simp [bV]] at hs8; have hcv8 := conv_bytes hs8 (by omega) (encG_256 z0) cw; have HN8 := hide (And.intro hown8 hgrow8); clear hown8 hgrow8 hor8 hown7 gA hs8)
      go_ret2
      obtain ⟨hown8, hgrow8⟩ := HN8.out
      rw [HE.out]
      exact ⟨bgrown (balloc HO.out.2 _) hgrow8 (own_ge HO.out.1), rfl⟩
    · have hnz : 128 ≤ z := by omega
      have hnz2 : 128 ≤ (z : Int) := by omega
      have HP := hide (show (pre ++ [z % 128 + 128]) ++ encG (z / 128) = encG z0 by rw [List.append_assoc, ← hpre, encG_ge h128]; rfl)
      have HLT := hide (show ∀ x ∈ pre ++ [z % 128 + 128], x < 256 from fun x hx => by
        rcases List.mem_append.1 hx with h | h
        · exact hlt x h
        · rw [List.mem_singleton] at h; omega)
      have HPW := hide (show z / 128 * 128 ^ (pre.length + 1) ≤ z0 by
        refine Nat.le_trans ?_ hpow
        rw [Nat.pow_succ, Nat.mul_comm (128 ^ pre.length) 128, ← Nat.mul_assoc]
        exact Nat.mul_le_mul_right _ (Nat.div_mul_le_self z 128))
      have hp8 : pre.length + 1 ≤ 9 := by
        rcases Nat.lt_or_ge pre.length 9 with h | h
        · omega
        · exfalso
          have h9 : pre.length = 9 := by omega
          rw [h9] at hpow
          have : 128 * 128 ^ 9 ≤ z * 128 ^ 9 := Nat.mul_le_mul_right _ hnz
          have h2 : (128 : Nat) * 128 ^ 9 = 1180591620717411303424 := by decide
          omega
      have HO := hide (And.intro hown hb)
      have gA := (Blk.new wr 5 [.int .u8 ((z : Int) % 128 + 128)]).slr (k := 1) (n := 1) rfl
      have hown7 := hown.alloc (.cells #[.int .u8 ((z : Int) % 128 + 128)] 5)
      clear hpre hlt hpow hv3 hb hown
      generalize hp : pre.length = m at *
      have HPL := hide hp
      clear hp
      go_wp2_with (at_builtin; refine wpList_append_sl (size := 1) rfl _ _ 63 rfl w.heap.size 5 j0 (.int .u8 0) 1 Tryz.underlying63 hj0 hz0 hz1 hz2 rfl (by decide) (.slice Av m cv) m (bV pre) rfl hown7 1 1 [.int .u8 ((z : Int) % 128 + 128)] rfl gA (Below.refl _ _) (fun u hu => oneB [z % 128 + 128] u (by simpa [bV] using hu)) (by unfold maxLen; omega) (by omega) (by simp; omega) ?_; intro v8 w8 hown8 hgrow8 hor8; have HN8 := hide (And.intro hown8 hgrow8); clear hown8 hgrow8 hor8 hown7 gA)
      obtain ⟨hown8, hgrow8⟩ := HN8.out
      refine ⟨⟨z / 128, pre ++ [z % 128 + 128], by simp, by omega, HP.out, HLT.out, ?_, ?_, ?_, ?_⟩, ?_⟩
      · rw [List.length_append, HPL.out]
        have := HPW.out
        exact this
      · rw [List.length_append, HPL.out]; exact hp8
      · rw [List.length_append, HPL.out]
        have : bV (pre ++ [z % 128 + 128]) = bV pre ++ [.int .u8 ((z : Int) % 128 + 128)] := by simp [bV]
        rw [this]
        exact hown8
      · exact bgrown (balloc HO.out.2 _) hgrow8 (own_ge HO.out.1)
      · simp [intOf]; omega
def putS (s : ByteArray) : Option ByteArray := if s.size ≤ 65536 then some (encS s) else none
theorem encI_size {n : Int} (h1 : -maxI ≤ n) (h2 : n ≤ maxI) : (encI n).size ≤ 9 := by
  rw [← bN_len, bN_encI]
  exact encG_len 8 (zz n) (Nat.lt_of_lt_of_le (zz_lt h1 h2) (by decide))
set_option linter.unusedSimpArgs false in
set_option maxRecDepth 100000 in
set_option maxHeartbeats 4000000 in
theorem c_qPutString (s : ByteArray) (w : World) : Calls Tryz.prog 73 #[.string s] w (StrPost (putS s) w) := by
  by_cases h1 : s.size ≤ 65536
  · have HE := hide (show putS s = some (encI s.size ++ s) by unfold putS; rw [if_pos h1]; rfl)
    have hpI : putI (s.size : Int) = some (encI s.size) := by unfold putI maxI; rw [if_pos ⟨by omega, by omega⟩]
    have hk := c_qPutInt (s.size : Int) w
    rw [hpI] at hk
    have hn : ¬ (65536 < (s.size : Int)) := by omega
    have hsum : (encI s.size).size + s.size ≤ 9223372036854775807 := by have := encI_size (n := (s.size : Int)) (by unfold maxI; omega) (by unfold maxI; omega); omega
    generalize encI s.size = hd at *
    clear hpI
    go_enter Tryz.func73, Tryz.ntmps73
    go_wp2_with (go_at_call 72; refine hk.mono ?_; clear hk; rintro e w1 ⟨hb, rfl⟩; simp only [Option.getD_some, Option.isSome_some, if_true])
    go_ret2
    rw [HE.out]
    exact ⟨hb, rfl⟩
  · have HE := hide (show putS s = none by unfold putS; rw [if_neg h1])
    have hn : 65536 < (s.size : Int) := by omega
    go_enter Tryz.func73, Tryz.ntmps73
    go_wp2
    go_ret2
    rw [HE.out]
    exact ⟨Below.refl _ _, rfl⟩
end Go.Proofs.YtcfbgelhggapjaaGreatDoor
/- Replica: the reference's Int, String. -/
namespace Go.Proofs.YtcfbgelhggapjaaGreatDoor
open Go.RowKit Go.Shelf
/-- the answer of Int -/
def intV (o : Option (Int × Nat)) : Value := match o with | some p => .tuple #[.int .i64 p.1, .int .i64 p.2, .int .i64 0] | none => .tuple #[.int .i64 0, .int .i64 0, .int .i64 10]
theorem shl_at (V b i : Nat) (_ : i < 9) (_ : b < 256) (h : V + b % 128 * 128 ^ i < 128 ^ 9) : IntKind.u64.wrap ((V : Int) + IntKind.u64.wrap ((b : Int) % 128 * 2 ^ (7 * i))) = ((V + b % 128 * 128 ^ i : Nat) : Int) := by
  have e : (b : Int) % 128 * 2 ^ (7 * i) = ((b % 128 * 128 ^ i : Nat) : Int) := by
    rw [Nat.pow_mul 2 7 i |> fun (e : (2 : Nat) ^ (7 * i) = (2 ^ 7) ^ i) => show (2 : Int) ^ (7 * i) = ((128 ^ i : Nat) : Int) by
      rw [show (128 : Nat) = 2 ^ 7 by decide, ← e]; push_cast; rfl]
    push_cast
    rfl
  rw [e, u64w, u64w]
  generalize b % 128 * 128 ^ i = x at *
  rw [show (128 : Nat) ^ 9 = 9223372036854775808 by decide] at h
  omega
theorem uz_le {V : Nat} (h : V < 2 ^ 63) : uz V ≤ maxI := by unfold uz maxI; split <;> omega
theorem prs_go {bs : List Nat} {k i z b : Nat} (h : bs[i]? = some b) (hb : 128 ≤ b) : prs bs (k + 1) i z = prs bs k (i + 1) (z + b % 128 * 128 ^ i) := by
  rw [prs, h]; dsimp only; rw [if_pos hb]
theorem prs_end {bs : List Nat} {k i z b : Nat} (h : bs[i]? = some b) (hb : ¬ 128 ≤ b) : prs bs (k + 1) i z = if (b = 0 ∧ 0 < i) ∨ uz (z + b % 128 * 128 ^ i) < -maxI then none else some (uz (z + b % 128 * 128 ^ i), i + 1) := by
  rw [prs, h]; dsimp only; rw [if_neg hb]
theorem enc_cmp {s : ByteArray} {a i b V : Nat} (hl : a + i < s.size) (hall : ∀ x ∈ ((bN s).drop a).take i, 128 ≤ x) (hb : b < 128) (htk : ((bN s).drop a).take (i + 1) = ((bN s).drop a).take i ++ [b]) (hV : valG (((bN s).drop a).take (i + 1)) = V) :
    encI (uz V) = s.extract a (a + i + 1) ↔ ¬ (b = 0 ∧ 0 < i) := by
  have h1 : encI (uz V) = s.extract a (a + i + 1) ↔ encG V = ((bN s).drop a).take (i + 1) := by
    constructor
    · intro h
      have := congrArg bN h
      rw [bN_encI, zz_uz, bN_extract, show a + i + 1 - a = i + 1 by omega] at this
      exact this
    · intro h
      apply bN_inj
      rw [bN_encI, zz_uz, bN_extract, show a + i + 1 - a = i + 1 by omega]
      exact h
  have h2 := encG_val (((bN s).drop a).take i) b (fun x hx => ⟨hall x hx, bN_lt s x (List.mem_of_mem_drop (List.mem_of_mem_take hx))⟩) hb
  rw [h1, ← hV, htk, h2]
  have h3 : ((bN s).drop a).take i = [] ↔ i = 0 := by
    rw [← List.length_eq_zero_iff, List.length_take, List.length_drop, bN_len, Nat.min_eq_left (by omega)]
  rw [h3]
  omega
set_option linter.unusedSimpArgs false in
set_option maxRecDepth 100000 in
set_option maxHeartbeats 4000000 in
theorem c_qInt (s : ByteArray) (a : Nat) (w : World) (ha : a ≤ s.size) (hs : s.size ≤ 1000000) : Calls Tryz.prog 76 #[.string s, .int .i64 a] w fun e w' => e = .returned (intV (decI s a)) ∧ Below w.heap.size w w' := by
  have hal : ¬ ((s.size : Int) < (a : Int)) := by omega
  have HD := hide (show decI s a = (prs ((bN s).drop a) 9 0 (valG (((bN s).drop a).take 0))).map (fun p => (p.1, a + p.2)) by simp [valG]; rfl)
  go_enter Tryz.func76, Tryz.ntmps76
  go_wp2
  go_loopw [7, 8] (fun zv iv wr => ∃ (i : Nat), zv = .int .u64 (valG (((bN s).drop a).take i) : Nat) ∧ iv = .int .i64 i ∧ i ≤ 9 ∧ a + i ≤ s.size ∧ (∀ b ∈ ((bN s).drop a).take i, 128 ≤ b) ∧ decI s a = (prs ((bN s).drop a) (9 - i) i (valG (((bN s).drop a).take i))).map (fun p => (p.1, a + p.2)) ∧ Below w.heap.size w wr) (fun _ iv _ => 9 - (intOf iv).toNat)
  case atStart => exact ⟨0, rfl, rfl, by omega, by omega, by simp, HD.out, Below.refl _ _⟩
  case round =>
    obtain ⟨i, rfl, rfl, hi9, hai, hall, hd, hb⟩ := hrel
    clear HD
    by_cases h9 : i < 9
    · by_cases hlt : a + i < s.size
      · have hbs : ((bN s).drop a)[i]? = some (s[a + i]'hlt).toNat := by
          rw [List.getElem?_drop, bN_get s (a + i) hlt]; rfl
        have hil : i < ((bN s).drop a).length := by rw [List.length_drop, bN_len]; omega
        have htk : ((bN s).drop a).take (i + 1) = ((bN s).drop a).take i ++ [(s[a + i]'hlt).toNat] := by
          rw [List.take_succ_eq_append_getElem hil]
          congr 2
          rw [List.getElem?_eq_getElem hil] at hbs
          exact Option.some.inj hbs
        have hval : valG (((bN s).drop a).take (i + 1)) = valG (((bN s).drop a).take i) + (s[a + i]'hlt).toNat % 128 * 128 ^ i := by
          rw [htk, valG_snoc, List.length_take, Nat.min_eq_left (by omega)]
        have hvlt := valG_lt (((bN s).drop a).take (i + 1))
        rw [List.length_take, Nat.min_eq_left (by omega)] at hvlt
        have hpw : (128 : Nat) ^ (i + 1) ≤ 128 ^ 9 := Nat.pow_le_pow_right (by decide) (by omega)
        have hb256 : (s[a + i]'hlt).toNat < 256 := (s[a + i]'hlt).toNat_lt
        have h9i : (i : Int) < 9 := by omega
        have hai2 : (a : Int) + (i : Int) < (s.size : Int) := by omega
        have HA := hide (And.intro hall (And.intro hd (And.intro hbs (And.intro htk (And.intro hval (And.intro hvlt hpw))))))
        have hsi : ∀ (h : (((a : Int) + (i : Int)).toNat) < s.size), (s[((a : Int) + (i : Int)).toNat]'h).toNat = (s[a + i]'hlt).toNat := fun h => by
          congr 2
        clear hall hd hbs htk hval hvlt hpw
        go_upto_region 7 with (fail)
        go_cut [9] from 33 to 38 (fun v wx => v = .int .u64 ((s[a + i]'hlt).toNat : Nat) ∧ wx = wr)
        case first =>
          go_wp2
          go_meet
          exact ⟨rfl, rfl⟩
        case rest =>
          obtain ⟨rfl, rfl⟩ := hcut
          generalize (s[a + i]'hlt).toNat = b at *
          go_upto_region 8 with (fail)
          go_cut [7] from 39 to 45 (fun v wx => v = .int .u64 (valG (((bN s).drop a).take (i + 1)) : Nat) ∧ wx = wc)
          case first =>
            go_wp2
            go_meet
            refine ⟨congrArg (Value.int IntKind.u64) ?_, rfl⟩
            obtain ⟨_, _, _, _, q1, q2, q3⟩ := HA.out
            rw [q1]
            exact shl_at _ _ _ h9 hb256 (by rw [← q1]; exact Nat.lt_of_lt_of_le q2 q3)
          case rest =>
            obtain ⟨rfl, rfl⟩ := hcut
            obtain ⟨V, hV⟩ : ∃ V, valG (((bN s).drop a).take (i + 1)) = V := ⟨_, rfl⟩
            have HV := hide hV
            rw [hV] at HA
            have hVl : V < 2 ^ 63 := Nat.lt_of_lt_of_le HA.out.2.2.2.2.2.1 HA.out.2.2.2.2.2.2
            simp only [hV]
            clear hV
            by_cases h8 : 128 ≤ b
            · have HS := hide (show prs ((bN s).drop a) (9 - i) i (valG (((bN s).drop a).take i)) = prs ((bN s).drop a) (9 - (i + 1)) (i + 1) V by
                obtain ⟨_, _, q0, _, q1, _, _⟩ := HA.out
                rw [q1, show 9 - i = 9 - (i + 1) + 1 by omega]
                exact prs_go q0 h8)
              have h8i : 128 ≤ (b : Int) := by omega
              go_wp2_with fail
              refine ⟨⟨i + 1, by rw [HV.out], rfl, by omega, by omega, ?_, ?_, hb⟩, ?_⟩
              · rw [HA.out.2.2.2.1]
                intro x hx
                rcases List.mem_append.1 hx with h | h
                · exact HA.out.1 x h
                · rw [List.mem_singleton] at h; omega
              · rw [HV.out, ← HS.out]; exact HA.out.2.1
              · simp [intOf]; omega
            · have h8i : ¬ (128 ≤ (b : Int)) := by omega
              have HS := hide (show decI s a = if (b = 0 ∧ 0 < i) ∨ uz V < -maxI then none else some (uz V, a + (i + 1)) by
                obtain ⟨_, q, q0, _, q1, _, _⟩ := HA.out
                rw [q, show 9 - i = 8 - i + 1 by omega, prs_end q0 h8, ← q1]
                split <;> rfl)
              have HC := hide (show encI (uz V) = s.extract a (a + i + 1) ↔ ¬ (b = 0 ∧ 0 < i) by
                obtain ⟨q, _, _, q2, q1, _, _⟩ := HA.out
                exact enc_cmp hlt q (by omega) q2 HV.out)
              by_cases hodd : V % 2 = 1
              · have hd1 : (V : Int) % 2 = 1 := by omega
                have hk := c_qPutInt (-((V : Int) / 2) - 1) wc
                have HU := hide (show uz V = -((V : Int) / 2) - 1 by unfold uz; rw [if_pos hodd]; omega)
                rw [← HU.out] at hk
                by_cases hmin : uz V < -maxI
                · have hp : putI (uz V) = none := by unfold putI; rw [if_neg (by omega)]
                  rw [hp, HU.out] at hk
                  have HQ := hide (HS.out.trans (if_pos (.inr hmin)))
                  clear hp hmin
                  go_wp2_with (go_at_call 72; refine hk.mono ?_; clear hk; rintro e w1 ⟨hb1, rfl⟩; simp only [Option.getD_none, Option.isSome_none, Bool.false_eq_true, if_false])
                  go_ret3
                  rw [HQ.out]
                  exact ⟨rfl, bthen hb hb1⟩
                · have hp : putI (uz V) = some (encI (uz V)) := by
                    unfold putI
                    rw [if_pos ⟨by omega, uz_le hVl⟩]
                  rw [hp, HU.out] at hk
                  rw [HU.out] at HC
                  by_cases hz : b = 0 ∧ 0 < i
                  · have HQ := hide (HS.out.trans (if_pos (.inl hz)))
                    have hne : ((encI (-((V : Int) / 2) - 1)).toList == (s.extract a (a + i + 1)).toList) = false := by
                      rw [beq_eq_false_iff_ne, Ne, text_iff]
                      exact fun h => HC.out.1 h hz
                    generalize encI (-((V : Int) / 2) - 1) = et at *
                    clear hp hmin hz
                    go_wp2_with (go_at_call 72; refine hk.mono ?_; clear hk; rintro e w1 ⟨hb1, rfl⟩; simp only [Option.getD_some, Option.isSome_some, if_true])
                    go_ret3
                    rw [HQ.out]
                    exact ⟨rfl, bthen hb hb1⟩
                  · have HQ := hide (HS.out.trans (if_neg (fun h => h.elim hz hmin)))
                    have hne : ((encI (-((V : Int) / 2) - 1)).toList == (s.extract a (a + i + 1)).toList) = true := by
                      rw [beq_iff_eq, text_iff]
                      exact HC.out.2 hz
                    generalize encI (-((V : Int) / 2) - 1) = et at *
                    clear hp hmin hz
                    go_wp2_with (go_at_call 72; refine hk.mono ?_; clear hk; rintro e w1 ⟨hb1, rfl⟩; simp only [Option.getD_some, Option.isSome_some, if_true])
                    go_ret3
                    rw [HQ.out, HU.out]
                    exact ⟨rfl, bthen hb hb1⟩
              · have hd1 : ¬ ((V : Int) % 2 = 1) := by omega
                have hk := c_qPutInt ((V : Int) / 2) wc
                have HU := hide (show uz V = (V : Int) / 2 by unfold uz; rw [if_neg hodd]; omega)
                rw [← HU.out] at hk
                by_cases hmin : uz V < -maxI
                · exact absurd hmin (by rw [HU.out]; unfold maxI; omega)
                · have hp : putI (uz V) = some (encI (uz V)) := by
                    unfold putI
                    rw [if_pos ⟨by omega, uz_le hVl⟩]
                  rw [hp, HU.out] at hk
                  rw [HU.out] at HC
                  by_cases hz : b = 0 ∧ 0 < i
                  · have HQ := hide (HS.out.trans (if_pos (.inl hz)))
                    have hne : ((encI ((V : Int) / 2)).toList == (s.extract a (a + i + 1)).toList) = false := by
                      rw [beq_eq_false_iff_ne, Ne, text_iff]
                      exact fun h => HC.out.1 h hz
                    generalize encI ((V : Int) / 2) = et at *
                    clear hp hmin hz hodd
                    go_wp2_with (go_at_call 72; refine hk.mono ?_; clear hk; rintro e w1 ⟨hb1, rfl⟩; simp only [Option.getD_some, Option.isSome_some, if_true])
                    go_ret3
                    rw [HQ.out]
                    exact ⟨rfl, bthen hb hb1⟩
                  · have HQ := hide (HS.out.trans (if_neg (fun h => h.elim hz hmin)))
                    have hne : ((encI ((V : Int) / 2)).toList == (s.extract a (a + i + 1)).toList) = true := by
                      rw [beq_iff_eq, text_iff]
                      exact HC.out.2 hz
                    generalize encI ((V : Int) / 2) = et at *
                    clear hp hmin hz hodd
                    go_wp2_with (go_at_call 72; refine hk.mono ?_; clear hk; rintro e w1 ⟨hb1, rfl⟩; simp only [Option.getD_some, Option.isSome_some, if_true])
                    go_ret3
                    rw [HQ.out, HU.out]
                    exact ⟨rfl, bthen hb hb1⟩
      · have HQ := hide (show decI s a = none by
          rw [hd, show 9 - i = 8 - i + 1 by omega, prs, List.getElem?_eq_none (by rw [List.length_drop, bN_len]; omega)]
          rfl)
        have h9i : (i : Int) < 9 := by omega
        have hai2 : ¬ ((a : Int) + (i : Int) < (s.size : Int)) := by omega
        clear hd hall
        go_wp2
        go_ret3
        rw [HQ.out]
        exact ⟨rfl, hb⟩
    · have HQ := hide (show decI s a = none by
        rw [hd, show 9 - i = 0 by omega]
        rfl)
      have h9i : ¬ ((i : Int) < 9) := by omega
      clear hd hall
      go_wp2
      go_ret3
      rw [HQ.out]
      exact ⟨rfl, hb⟩
def strV (o : Option (ByteArray × Nat)) : Value := match o with | some p => .tuple #[.string p.1, .int .i64 p.2, .int .i64 0] | none => .tuple #[.string ⟨#[]⟩, .int .i64 0, .int .i64 10]
set_option linter.unusedSimpArgs false in
set_option maxRecDepth 100000 in
set_option maxHeartbeats 4000000 in
theorem c_qString (s : ByteArray) (a : Nat) (w : World) (ha : a ≤ s.size) (hs : s.size ≤ 1000000) : Calls Tryz.prog 77 #[.string s, .int .i64 a] w fun e w' => e = .returned (strV (decS s a)) ∧ Below w.heap.size w w' := by
  have hk := c_qInt s a w ha hs
  cases hd : decI s a with
  | none =>
    rw [hd] at hk
    have HQ := hide (show decS s a = none by unfold decS; rw [hd])
    clear hd
    unfold intV at hk
    go_enter Tryz.func77, Tryz.ntmps77
    go_wp2_with (go_at_call 76; refine hk.mono ?_; clear hk; rintro e w1 ⟨rfl, hb⟩; dsimp only)
    go_ret3
    rw [HQ.out]
    exact ⟨rfl, hb⟩
  | some p =>
    obtain ⟨n, m⟩ := p
    rw [hd] at hk
    obtain ⟨g1, g2, g3, g4, g5⟩ := decI_some ha hd
    have HS := hide (show decS s a = if n < 0 ∨ n > 65536 ∨ n > (s.size : Int) - m then none else some (s.extract m (m + n.toNat), m + n.toNat) by unfold decS; rw [hd])
    clear hd g3 g4 g5 g1
    unfold intV at hk
    by_cases h1 : n < 0
    · have HQ := hide (HS.out.trans (if_pos (.inl h1)))
      go_enter Tryz.func77, Tryz.ntmps77
      go_wp2_with (go_at_call 76; refine hk.mono ?_; clear hk; rintro e w1 ⟨rfl, hb⟩; dsimp only)
      go_ret3
      rw [HQ.out]
      exact ⟨rfl, hb⟩
    by_cases h2 : n > 65536
    · have HQ := hide (HS.out.trans (if_pos (.inr (.inl h2))))
      have h2' : 65536 < n := h2
      go_enter Tryz.func77, Tryz.ntmps77
      go_wp2_with (go_at_call 76; refine hk.mono ?_; clear hk; rintro e w1 ⟨rfl, hb⟩; dsimp only)
      go_ret3
      rw [HQ.out]
      exact ⟨rfl, hb⟩
    by_cases h3 : n > (s.size : Int) - m
    · have HQ := hide (HS.out.trans (if_pos (.inr (.inr h3))))
      have h3' : (s.size : Int) - (m : Int) < n := h3
      have h2' : ¬ (65536 < n) := h2
      clear h3 h2
      go_enter Tryz.func77, Tryz.ntmps77
      go_wp2_with (go_at_call 76; refine hk.mono ?_; clear hk; rintro e w1 ⟨rfl, hb⟩; dsimp only)
      go_ret3
      rw [HQ.out]
      exact ⟨rfl, hb⟩
    · have HQ := hide (HS.out.trans (if_neg (by omega)))
      have h3' : ¬ ((s.size : Int) - (m : Int) < n) := h3
      have h2' : ¬ (65536 < n) := h2
      obtain ⟨nn, rfl⟩ : ∃ nn : Nat, n = nn := ⟨n.toNat, by omega⟩
      have h4 : m + nn ≤ s.size := by omega
      clear h3 h2
      go_enter Tryz.func77, Tryz.ntmps77
      go_wp2_with (go_at_call 76; refine hk.mono ?_; clear hk; rintro e w1 ⟨rfl, hb⟩; dsimp only)
      go_ret3
      rw [HQ.out]
      refine ⟨?_, hb⟩
      unfold strV
      simp
end Go.Proofs.YtcfbgelhggapjaaGreatDoor
/- Replica: the package's Int, String (package wire). -/
namespace Go.Proofs.YtcfbgelhggapjaaGreatDoor
open Go.RowKit Go.Shelf
theorem mask127 {c : Int} (h₀ : 0 ≤ c) (h₁ : c ≤ 255) : bits .and .u8 c 127 = c % 128 := bits_mask .u8 8 (by decide) wraps_u8 7 (by decide) c h₀ (by omega)
theorem or_at (V b i : Nat) (hb : b < 256) (hV : V < 128 ^ i) (h : V + b % 128 * 128 ^ i < 128 ^ 9) :
    bits .or .u64 (V : Int) (IntKind.u64.wrap (IntKind.u64.wrap (bits .and .u8 (b : Int) 127) * 2 ^ (7 * i))) = ((V + b % 128 * 128 ^ i : Nat) : Int) := by
  rw [show (128 : Nat) ^ 9 = 9223372036854775808 by decide] at h
  have h1 : IntKind.u64.wrap ((b : Int) % 128) = ((b % 128 : Nat) : Int) := by rw [u64w]; omega
  have e2 : (2 : Nat) ^ (7 * i) = 128 ^ i := by rw [Nat.pow_mul]
  have e : ((b % 128 : Nat) : Int) * 2 ^ (7 * i) = ((b % 128 * 128 ^ i : Nat) : Int) := by
    rw [← e2]; push_cast; rfl
  have h2 : IntKind.u64.wrap ((b % 128 * 128 ^ i : Nat) : Int) = ((b % 128 * 128 ^ i : Nat) : Int) := by
    rw [u64w]
    generalize b % 128 * 128 ^ i = x at *
    omega
  rw [mask127 (by omega) (by omega), h1, e, h2, u64_or_nat _ _ (by omega) (by omega)]
  congr 1
  have := Nat.shiftLeft_add_eq_or_of_lt (b := V) (i := 7 * i) (by rw [e2]; exact hV) (b % 128)
  rw [Nat.shiftLeft_eq, e2] at this
  rw [Nat.or_comm, ← this, Nat.add_comm]
theorem xor_at (V : Nat) (h : V < 2 ^ 63) : bits .xor .i64 ((V : Int) / 2) (wrap64 (-wrap64 (bits .and .u64 (V : Int) 1))) = uz V := by
  have h1 : bits .and .u64 (V : Int) 1 = ((V % 2 : Nat) : Int) := by
    have := bits_and_u64_nat V 1 (by omega) (by omega)
    rw [Nat.and_one_is_mod] at this
    exact this
  rw [h1]
  have h2 : (V : Int) / 2 = ((V / 2 : Nat) : Int) := by omega
  rw [h2]
  have hlt : V / 2 < 4611686018427387904 := by omega
  have h3 : BitVec.ofInt 64 ((V / 2 : Nat) : Int) = BitVec.ofNat 64 (V / 2) := BitVec.ofInt_natCast ..
  rcases Nat.mod_two_eq_zero_or_one V with g | g
  · have hu : uz V = ((V / 2 : Nat) : Int) := by unfold uz; rw [if_neg (by omega)]
    rw [g, hu, show wrap64 (-wrap64 ((0 : Nat) : Int)) = 0 by rw [Go.IntWalk.wrap64_in ((0 : Nat) : Int) (by omega), Go.IntWalk.wrap64_in (-((0 : Nat) : Int)) (by omega)]; rfl]
    show IntKind.i64.wrap ((BitVec.ofInt 64 ((V / 2 : Nat) : Int) ^^^ BitVec.ofInt 64 0).toNat : Int) = _
    rw [show BitVec.ofInt 64 0 = 0#64 by decide, BitVec.xor_zero, h3, BitVec.toNat_ofNat]
    simp [IntKind.wrap, IntKind.bits, IntKind.signed]
    omega
  · have hu : uz V = -((V / 2 : Nat) : Int) - 1 := by unfold uz; rw [if_pos g]
    rw [g, hu, show wrap64 (-wrap64 ((1 : Nat) : Int)) = -1 by rw [Go.IntWalk.wrap64_in ((1 : Nat) : Int) (by omega), Go.IntWalk.wrap64_in (-((1 : Nat) : Int)) (by omega)]; rfl]
    show IntKind.i64.wrap ((BitVec.ofInt 64 ((V / 2 : Nat) : Int) ^^^ BitVec.ofInt 64 (-1)).toNat : Int) = _
    have := i64_not (V / 2) (by omega)
    have h5 : bits .xor .i64 (-1) ((V / 2 : Nat) : Int) = IntKind.i64.wrap ((BitVec.ofInt 64 (-1) ^^^ BitVec.ofInt 64 ((V / 2 : Nat) : Int)).toNat : Int) := rfl
    rw [BitVec.xor_comm, ← h5, this]
    omega
set_option linter.unusedSimpArgs false in
set_option maxRecDepth 100000 in
set_option maxHeartbeats 4000000 in
theorem c_wInt (s : ByteArray) (a : Nat) (w : World) (ha : a ≤ s.size) (hs : s.size ≤ 1000000) : Calls Tryz.prog 74 #[.string s, .int .i64 a] w fun e w' => e = .returned (intV (decI s a)) ∧ Below w.heap.size w w' := by
  have hal : ¬ ((s.size : Int) < (a : Int)) := by omega
  have HD := hide (show decI s a = (prs ((bN s).drop a) 9 0 (valG (((bN s).drop a).take 0))).map (fun p => (p.1, a + p.2)) by simp [valG]; rfl)
  go_enter Tryz.func74, Tryz.ntmps74
  go_wp2
  go_loopw [7, 19] (fun zv iv wr => ∃ (i : Nat), zv = .int .u64 (valG (((bN s).drop a).take i) : Nat) ∧ iv = .int .i64 i ∧ i ≤ 9 ∧ a + i ≤ s.size ∧ (∀ b ∈ ((bN s).drop a).take i, 128 ≤ b) ∧ decI s a = (prs ((bN s).drop a) (9 - i) i (valG (((bN s).drop a).take i))).map (fun p => (p.1, a + p.2)) ∧ Below w.heap.size w wr) (fun _ iv _ => 9 - (intOf iv).toNat)
  case atStart => exact ⟨0, rfl, rfl, by omega, by omega, by simp, HD.out, Below.refl _ _⟩
  case round =>
    obtain ⟨i, rfl, rfl, hi9, hai, hall, hd, hb⟩ := hrel
    clear HD
    by_cases h9 : i < 9
    · by_cases hlt : a + i < s.size
      · have hbs : ((bN s).drop a)[i]? = some (s[a + i]'hlt).toNat := by
          rw [List.getElem?_drop, bN_get s (a + i) hlt]; rfl
        have hil : i < ((bN s).drop a).length := by rw [List.length_drop, bN_len]; omega
        have htk : ((bN s).drop a).take (i + 1) = ((bN s).drop a).take i ++ [(s[a + i]'hlt).toNat] := by
          rw [List.take_succ_eq_append_getElem hil]
          congr 2
          rw [List.getElem?_eq_getElem hil] at hbs
          exact Option.some.inj hbs
        have hval : valG (((bN s).drop a).take (i + 1)) = valG (((bN s).drop a).take i) + (s[a + i]'hlt).toNat % 128 * 128 ^ i := by
          rw [htk, valG_snoc, List.length_take, Nat.min_eq_left (by omega)]
        have hvlt := valG_lt (((bN s).drop a).take (i + 1))
        rw [List.length_take, Nat.min_eq_left (by omega)] at hvlt
        have hpw : (128 : Nat) ^ (i + 1) ≤ 128 ^ 9 := Nat.pow_le_pow_right (by decide) (by omega)
        have hb256 : (s[a + i]'hlt).toNat < 256 := (s[a + i]'hlt).toNat_lt
        have h9i : (i : Int) < 9 := by omega
        have hai2 : (a : Int) + (i : Int) < (s.size : Int) := by omega
        have HA := hide (And.intro hall (And.intro hd (And.intro hbs (And.intro htk (And.intro hval (And.intro hvlt hpw))))))
        have hsi : ∀ (h : (((a : Int) + (i : Int)).toNat) < s.size), (s[((a : Int) + (i : Int)).toNat]'h).toNat = (s[a + i]'hlt).toNat := fun h => by
          congr 2
        clear hall hd hbs htk hval hvlt hpw
        go_upto_region 8 with (fail)
        go_cut [9] from 28 to 32 (fun v wx => v = .int .u8 ((s[a + i]'hlt).toNat : Nat) ∧ wx = wr)
        case first =>
          go_wp2
          go_meet
          exact ⟨rfl, rfl⟩
        case rest =>
          obtain ⟨rfl, rfl⟩ := hcut
          generalize (s[a + i]'hlt).toNat = b at *
          go_upto_region 9 with (fail)
          go_cut [7] from 33 to 40 (fun v wx => v = .int .u64 (valG (((bN s).drop a).take (i + 1)) : Nat) ∧ wx = wc)
          case first =>
            go_wp2
            go_meet
            refine ⟨congrArg (Value.int IntKind.u64) ?_, rfl⟩
            obtain ⟨_, _, _, _, q1, q2, q3⟩ := HA.out
            have hv0 := valG_lt (((bN s).drop a).take i)
            rw [List.length_take, Nat.min_eq_left (by rw [List.length_drop, bN_len]; omega)] at hv0
            rw [q1]
            exact or_at _ _ _ hb256 hv0 (by rw [← q1]; exact Nat.lt_of_lt_of_le q2 q3)
          case rest =>
            obtain ⟨rfl, rfl⟩ := hcut
            obtain ⟨V, hV⟩ : ∃ V, valG (((bN s).drop a).take (i + 1)) = V := ⟨_, rfl⟩
            have HV := hide hV
            rw [hV] at HA
            have hVl : V < 2 ^ 63 := Nat.lt_of_lt_of_le HA.out.2.2.2.2.2.1 HA.out.2.2.2.2.2.2
            simp only [hV]
            clear hV
            by_cases h8 : 128 ≤ b
            · have HS := hide (show prs ((bN s).drop a) (9 - i) i (valG (((bN s).drop a).take i)) = prs ((bN s).drop a) (9 - (i + 1)) (i + 1) V by
                obtain ⟨_, _, q0, _, q1, _, _⟩ := HA.out
                rw [q1, show 9 - i = 9 - (i + 1) + 1 by omega]
                exact prs_go q0 h8)
              have h8i : 128 ≤ (b : Int) := by omega
              go_wp2_with fail
              refine ⟨⟨i + 1, by rw [HV.out], rfl, by omega, by omega, ?_, ?_, hb⟩, ?_⟩
              · rw [HA.out.2.2.2.1]
                intro x hx
                rcases List.mem_append.1 hx with h | h
                · exact HA.out.1 x h
                · rw [List.mem_singleton] at h; omega
              · rw [HV.out, ← HS.out]; exact HA.out.2.1
              · simp [intOf]; omega
            · have h8i : ¬ (128 ≤ (b : Int)) := by omega
              have HS := hide (show decI s a = if (b = 0 ∧ 0 < i) ∨ uz V < -maxI then none else some (uz V, a + (i + 1)) by
                obtain ⟨_, q, q0, _, q1, _, _⟩ := HA.out
                rw [q, show 9 - i = 8 - i + 1 by omega, prs_end q0 h8, ← q1]
                split <;> rfl)
              go_upto_region 11 with (fail)
              go_cut [10] from 43 to 50 (fun v wx => v = .int .i64 (uz V) ∧ wx = wc)
              case first =>
                go_wp2
                go_meet
                exact ⟨congrArg (Value.int IntKind.i64) (xor_at V hVl), rfl⟩
              case rest =>
                obtain ⟨rfl, rfl⟩ := hcut
                by_cases hz : b = 0 ∧ 0 < i
                · have HQ := hide (HS.out.trans (if_pos (.inl hz)))
                  obtain ⟨hz1, hz2⟩ := hz
                  have hz3 : (b : Int) = 0 := by omega
                  have hz4 : (0 : Int) < (i : Int) := by omega
                  clear HS hz1
                  generalize uz V = n at *
                  go_wp2_with fail
                  go_ret3
                  rw [HQ.out]
                  exact ⟨rfl, hb⟩
                · by_cases hmin : uz V < -maxI
                  · have HQ := hide (HS.out.trans (if_pos (.inr hmin)))
                    unfold maxI at hmin
                    have hm2 : uz V < -4611686018427387903 := hmin
                    by_cases hb0 : b = 0
                    · have hi0 : i = 0 := by omega
                      subst hb0
                      subst hi0
                      clear HS hz hmin
                      generalize uz V = n at *
                      go_wp2_with fail
                      go_ret3
                      rw [HQ.out]
                      exact ⟨rfl, hb⟩
                    · have hz3 : ¬ ((b : Int) = 0) := by omega
                      clear HS hz hmin hb0
                      generalize uz V = n at *
                      go_wp2_with fail
                      go_ret3
                      rw [HQ.out]
                      exact ⟨rfl, hb⟩
                  · have HQ := hide (HS.out.trans (if_neg (fun h => h.elim hz hmin)))
                    unfold maxI at hmin
                    have hm2 : ¬ (uz V < -4611686018427387903) := hmin
                    by_cases hb0 : b = 0
                    · have hi0 : i = 0 := by omega
                      subst hb0
                      subst hi0
                      clear HS hz hmin
                      generalize uz V = n at *
                      go_wp2_with fail
                      go_ret3
                      rw [HQ.out]
                      exact ⟨rfl, hb⟩
                    · have hz3 : ¬ ((b : Int) = 0) := by omega
                      clear HS hz hmin hb0
                      generalize uz V = n at *
                      go_wp2_with fail
                      go_ret3
                      rw [HQ.out]
                      exact ⟨rfl, hb⟩
      · have HQ := hide (show decI s a = none by
          rw [hd, show 9 - i = 8 - i + 1 by omega, prs, List.getElem?_eq_none (by rw [List.length_drop, bN_len]; omega)]
          rfl)
        have h9i : (i : Int) < 9 := by omega
        have hai2 : ¬ ((a : Int) + (i : Int) < (s.size : Int)) := by omega
        clear hd hall
        go_wp2
        go_ret3
        rw [HQ.out]
        exact ⟨rfl, hb⟩
    · have HQ := hide (show decI s a = none by
        rw [hd, show 9 - i = 0 by omega]
        rfl)
      have h9i : ¬ ((i : Int) < 9) := by omega
      clear hd hall
      go_wp2
      go_ret3
      rw [HQ.out]
      exact ⟨rfl, hb⟩
set_option linter.unusedSimpArgs false in
set_option maxRecDepth 100000 in
set_option maxHeartbeats 4000000 in
theorem c_wString (s : ByteArray) (a : Nat) (w : World) (ha : a ≤ s.size) (hs : s.size ≤ 1000000) : Calls Tryz.prog 75 #[.string s, .int .i64 a] w fun e w' => e = .returned (strV (decS s a)) ∧ Below w.heap.size w w' := by
  have hk := c_wInt s a w ha hs
  cases hd : decI s a with
  | none =>
    rw [hd] at hk
    have HQ := hide (show decS s a = none by unfold decS; rw [hd])
    clear hd
    unfold intV at hk
    go_enter Tryz.func75, Tryz.ntmps75
    go_wp2_with (go_at_call 74; refine hk.mono ?_; clear hk; rintro e w1 ⟨rfl, hb⟩; dsimp only)
    go_ret3
    rw [HQ.out]
    exact ⟨rfl, hb⟩
  | some p =>
    obtain ⟨n, m⟩ := p
    rw [hd] at hk
    obtain ⟨g1, g2, g3, g4, g5⟩ := decI_some ha hd
    have HS := hide (show decS s a = if n < 0 ∨ n > 65536 ∨ n > (s.size : Int) - m then none else some (s.extract m (m + n.toNat), m + n.toNat) by unfold decS; rw [hd])
    clear hd g3 g4 g5 g1
    unfold intV at hk
    by_cases h1 : n < 0
    · have HQ := hide (HS.out.trans (if_pos (.inl h1)))
      go_enter Tryz.func75, Tryz.ntmps75
      go_wp2_with (go_at_call 74; refine hk.mono ?_; clear hk; rintro e w1 ⟨rfl, hb⟩; dsimp only)
      go_ret3
      rw [HQ.out]
      exact ⟨rfl, hb⟩
    by_cases h2 : n > 65536
    · have HQ := hide (HS.out.trans (if_pos (.inr (.inl h2))))
      have h2' : 65536 < n := h2
      go_enter Tryz.func75, Tryz.ntmps75
      go_wp2_with (go_at_call 74; refine hk.mono ?_; clear hk; rintro e w1 ⟨rfl, hb⟩; dsimp only)
      go_ret3
      rw [HQ.out]
      exact ⟨rfl, hb⟩
    by_cases h3 : n > (s.size : Int) - m
    · have HQ := hide (HS.out.trans (if_pos (.inr (.inr h3))))
      have h3' : (s.size : Int) - (m : Int) < n := h3
      have h2' : ¬ (65536 < n) := h2
      clear h3 h2
      go_enter Tryz.func75, Tryz.ntmps75
      go_wp2_with (go_at_call 74; refine hk.mono ?_; clear hk; rintro e w1 ⟨rfl, hb⟩; dsimp only)
      go_ret3
      rw [HQ.out]
      exact ⟨rfl, hb⟩
    · have HQ := hide (HS.out.trans (if_neg (by omega)))
      have h3' : ¬ ((s.size : Int) - (m : Int) < n) := h3
      have h2' : ¬ (65536 < n) := h2
      obtain ⟨nn, rfl⟩ : ∃ nn : Nat, n = nn := ⟨n.toNat, by omega⟩
      have h4 : m + nn ≤ s.size := by omega
      clear h3 h2
      go_enter Tryz.func75, Tryz.ntmps75
      go_wp2_with (go_at_call 74; refine hk.mono ?_; clear hk; rintro e w1 ⟨rfl, hb⟩; dsimp only)
      go_ret3
      rw [HQ.out]
      refine ⟨?_, hb⟩
      unfold strV
      simp
end Go.Proofs.YtcfbgelhggapjaaGreatDoor
/- Replica: the package's PutInt, PutString (package wire): a range over the groups of a number. -/
namespace Go.Proofs.YtcfbgelhggapjaaGreatDoor
open Go.RowKit Go.Shelf
attribute [local go_sem] Oper.semAt_some
/-- what a round of the loop leaves alone: all below n0; from n1 on whatever is no cells; the box of the sequence -/
structure Kb (n0 Bn n1 : Nat) (A B : World) : Prop where
  below : Below n0 A B
  keep : ∀ (k : Nat) (o : Obj), n1 ≤ k → A.heap[k]? = some o → o.isCells = false → B.heap[k]? = some o
  box : ∀ o : Obj, A.heap[Bn]? = some o → B.heap[Bn]? = some o
theorem Kb.refl (n0 Bn n1 : Nat) (A : World) : Kb n0 Bn n1 A A := ⟨Below.refl _ _, fun _ _ _ h _ => h, fun _ h => h⟩
theorem Kb.trans {n0 Bn n1 : Nat} {A B C : World} (h : Kb n0 Bn n1 A B) (k : Kb n0 Bn n1 B C) : Kb n0 Bn n1 A C :=
  ⟨h.below.trans k.below, fun i o hi ha hp => k.keep i o hi (h.keep i o hi ha hp) hp, fun o h' => k.box o (h.box o h')⟩
theorem putObj_below (n : Nat) (W : World) (l : Nat) (o : Obj) (h : n ≤ l) : Below n W (W.putObj l o) :=
  ⟨rfl, rfl, rfl, by simp, fun k hk => World.putObj_heap_other (by omega)⟩
theorem Kb.back {n0 Bn n1 l : Nat} {A B : World} {o o' : Obj} (hl : A.heap[l]? = some o) (hn : n0 ≤ l) (hb : Bn ≠ l) (h : Kb n0 Bn n1 (A.putObj l o') B) (hB : l < B.heap.size) : Kb n0 Bn n1 A (B.putObj l o) := by
  refine ⟨((putObj_below n0 A l o' hn).trans h.below).trans (putObj_below n0 B l o hn), fun k u hk ha hp => ?_, fun u hu => ?_⟩
  · by_cases e : k = l
    · subst e
      rw [hl] at ha
      injection ha with ha
      subst ha
      exact World.putObj_heap_same hB
    · rw [World.putObj_heap_other e]
      exact h.keep k u hk ((World.putObj_heap_other e).trans ha) hp
  · rw [World.putObj_heap_other hb]
    exact h.box u ((World.putObj_heap_other hb).trans hu)
/-- what a sequence that keeps its state in a box promises its loop -/
def SeqB {α : Type} (F : Fence) (n : Nat) (P : Program) (g : Nat) (lb : Array Value) (encs : α → Array Value) (n0 Bn n1 : Nat) (S Sp : List α → Prop) (w : World) : Prop :=
  ∀ (l : Nat) (J : List α → World → Prop) (W : World), l < W.heap.size → Below w.heap.size w W → (∀ pre W u, J pre W → J pre (W.setCell ⟨Bn, 0, none⟩ u)) →
    (∀ pre x W1, J pre W1 → Sp (pre ++ [x]) → YieldAt F (n - 1) P l (encs x) W1 fun e W' => e = .returned (.bool true) ∧ J (pre ++ [x]) W' ∧ Kb n0 Bn n1 W1 W') →
    J [] W →
    CallsIn F n P g (#[.func (.yield l) #[] #[]] ++ lb) W fun e W' => (∃ v, e = .returned v) ∧ ∃ xs, S xs ∧ J xs W'
/-- how the body may be left -/
def postB {α : Type} (n0 Bn n1 : Nat) (I : List α → World → Prop) (xs : List α) (W : World) : Exit → Act → World → Prop
  | .normal, _, W' => Kb n0 Bn n1 W W' ∧ I xs W'
  | _, _, _ => False
theorem range_B {F : Fence} {n : Nat} {P : Program} {α : Type} {g : Operand} {ps : Array Tmp} {assign body : Code} {Q : Exit → Act → World → Prop} {a : Act} {w : World}
    (hro : F.round = none) (h1 : 1 ≤ n) {gf : Nat} {lb : Array Value} (hg : a.eval g = .func (.func gf) #[] lb) (hFg : F.fn gf) (eg : ∀ args w, (callFunc gf args).run P w = .ok (.enter gf args) w)
    {encs : α → Array Value} {n0 Bn : Nat} {S Sp : List α → Prop} {w0 : World} (hn0 : n0 ≤ w.heap.size) (hBn : Bn < w.heap.size)
    (hseq : SeqB F (n - 1) P gf lb encs n0 Bn w.heap.size S Sp w0) (hb0 : Below w0.heap.size w0 w) (hps : ∀ x, (encs x).size = ps.size)
    (I : List α → World → Prop) (hI : OwnFrom w.heap.size I) (hIs : ∀ pre W u, I pre W → I pre (W.setCell ⟨Bn, 0, none⟩ u)) (h0 : I [] w) (Ax : α → Act → World → Prop) (hAx : ∀ x a', OwnFrom w.heap.size (fun (_ : Unit) W => Ax x a' W))
    (hassign : ∀ (l : Nat) (pre : List α) (x : α) (W : World) (K : Act → World → Prop), I pre W → (∀ a' W', Kb n0 Bn w.heap.size W W' → I pre W' → Ax x a' W' → K a' W') →
      assign.wpIn (F.inRound l) (n - 1 - 1) P (Exit.then K (fun _ _ _ => False)) { tmps := (ps.zip (encs x)).foldl (fun t (p, v) => t.setIfInBounds p v) a.tmps, defers := [] } W)
    (hbody : ∀ (l : Nat) (pre : List α) (x : α) (a' : Act) (W : World), w.heap.size ≤ l → (∃ r, W.heap[l]? = some (.loop r)) → I pre W → Ax x a' W → Sp (pre ++ [x]) →
      body.wpIn (F.inRound l) (n - 1 - 1) P (postB n0 Bn w.heap.size I (pre ++ [x]) W) a' W)
    (hdone : ∀ (D : Nat) (xs : List α) (W : World), w.heap.size ≤ D → S xs → I xs W → W.heap[D]? = some (.deferred (some [])) → Q .normal { a with defers := { target := .collected D, args := #[] } :: a.defers } W) :
    (Code.rangeFunc g ps assign body).wpIn F n P Q a w := by
  refine wpIn_rangeFunc fun fn hfn => ?_
  rw [hro]
  obtain ⟨rc, hrc⟩ : ∃ rc : LoopState → Option Code → Loop, ∀ st pe, rc st pe = { state := st, pending := pe, fn, tmps := a.tmps, params := ps, assign, body, defers := w.heap.size } := ⟨fun st pe => _, fun _ _ => rfl⟩
  have hst : ∀ st pe st', { rc st pe with state := st' } = rc st' pe := fun st pe st' => by rw [hrc, hrc]
  have hsp : ∀ st pe st' pe', { rc st pe with state := st', pending := pe' } = rc st' pe' := fun st pe st' pe' => by rw [hrc, hrc]
  obtain ⟨V, hV⟩ : ∃ V, (w.alloc (.deferred (some []))).alloc (.loop (rc .ready none)) = V := ⟨_, rfl⟩
  have hVl : V.heap[w.heap.size + 1]? = some (.loop (rc .ready none)) := by
    have h := World.alloc_heap_new (w.alloc (.deferred (some []))) (.loop (rc .ready none))
    rw [World.size_alloc, hV] at h
    exact h
  have hVd : V.heap[w.heap.size]? = some (.deferred (some [])) := by
    have h := (Below.heap_alloc (w.alloc (.deferred (some []))) (.loop (rc .ready none)) w.heap.size (by simp)).trans (World.alloc_heap_new w _)
    rw [hV] at h
    exact h
  have hVs : V.heap.size = w.heap.size + 1 + 1 := by rw [← hV]; simp
  have hVI : I [] V := by rw [← hV]; exact hI.alloc _ (hI.alloc _ h0)
  have hVb : Below w0.heap.size w0 V := by
    rw [← hV]
    exact hb0.trans ((balloc (balloc (Below.refl _ w) _) _).mono hb0.size)
  refine ⟨w.heap.size + 1, [{ target := .collected w.heap.size, args := #[] }], V, { target := .fn (.func gf) lb, args := #[.func (.yield (w.heap.size + 1)) #[] #[]] }, V, gf, #[.func (.yield (w.heap.size + 1)) #[] #[]] ++ lb, V, ?_, ?_, ?_, ?_, fun _ => h1, ?_⟩
  · rw [← hV, hrc]; exact run_enterLoop_outer _ _ _ _ _
  · simp only [resolve, hg]
    simp [go_sem]
  · intro f' hf'; simp [Target.leads] at hf'; subst hf'; exact hFg
  · simp [invoke, go_sem, eg]
  · refine (hseq (w.heap.size + 1)
      (fun pre W => I pre W ∧ W.heap[w.heap.size + 1]? = some (.loop (rc .ready none)) ∧ W.heap[w.heap.size]? = some (.deferred (some [])))
      V (by omega) hVb
      (fun pre W u hs => ⟨hIs pre W u hs.1, (Below.heap_setCell W ⟨Bn, 0, none⟩ u _ (by dsimp only; omega)).trans hs.2.1, (Below.heap_setCell W ⟨Bn, 0, none⟩ u _ (by dsimp only; omega)).trans hs.2.2⟩)
      ?_ ⟨hVI, hVl, hVd⟩).mono ?_
    · rintro pre x W ⟨hi, hl, hd⟩ hlen
      have hy := run_yield (P := P) (args := encs x) hl (by rw [hrc]; exact hps x)
      rw [hrc] at hy
      refine ⟨fn, _, assign, body, hy, roundIn_of_wpIn hfn (hassign _ pre x W _ hi ?_)⟩
      clear hy
      intro a' W' hk hi' hax
      have hl' := hk.keep _ _ (by omega) hl rfl
      have hd' := hk.keep _ _ (Nat.le_refl _) hd rfl
      have hw' : w.heap.size + 1 < W'.heap.size := (Array.getElem?_eq_some_iff.1 hl').1
      refine ⟨_, run_beginRound hl' (by rw [hrc]), ?_⟩
      rw [hst]
      have hlB : (W'.putObj (w.heap.size + 1) (.loop (rc .busy none))).heap[w.heap.size + 1]? = some (.loop (rc .busy none)) := World.putObj_heap_same hw'
      have hdB : (W'.putObj (w.heap.size + 1) (.loop (rc .busy none))).heap[w.heap.size]? = some (.deferred (some [])) := (World.putObj_heap_other (by omega)).trans hd'
      refine wpIn_mono (hbody _ pre x a' _ (by omega) ⟨_, hlB⟩ (hI.putObj _ hi' (by omega) hl' rfl) ((hAx x a').putObj (s := ()) _ hax (by omega) hl' rfl) hlen) ?_
      rintro e a3 W3 hp
      cases e with
      | normal =>
        obtain ⟨hk3, hi3⟩ := hp
        have hl3 := hk3.keep _ _ (by omega) hlB rfl
        have hd3 := hk3.keep _ _ (Nat.le_refl _) hdB rfl
        have hw3 := (Array.getElem?_eq_some_iff.1 hl3).1
        have hend := run_endRound (P := P) none hl3
        rw [hsp] at hend
        simp only [Option.isNone_none, if_true] at hend
        exact ⟨_, _, hend, ⟨rfl, ⟨hI.putObj _ hi3 (by omega) hl3 rfl, World.putObj_heap_same hw3, (World.putObj_heap_other (by omega)).trans hd3⟩, hk.trans (Kb.back hl' (by omega) (by omega) hk3 hw3)⟩⟩
      | _ => exact hp.elim
    · rintro e W2 ⟨⟨v, rfl⟩, xs, hS, hi, hl, hd⟩
      have hend := run_endLoop (P := P) hl (by rw [hrc]; simp)
      rw [hrc] at hend
      exact ⟨none, _, hend, hdone _ xs _ (Nat.le_refl _) hS (hI.putObj _ hi (by omega) hl rfl) ((World.putObj_heap_other (by omega)).trans hd)⟩
/-- the groups of a number, and whether each is the last one -/
def gL (z : Nat) : List (Nat × Bool) := if z < 128 then [(z, true)] else (z % 128, false) :: gL (z / 128)
termination_by z
decreasing_by omega
theorem gL_lt {z : Nat} (h : z < 128) : gL z = [(z, true)] := by rw [gL, if_pos h]
theorem gL_ge {z : Nat} (h : ¬ z < 128) : gL z = (z % 128, false) :: gL (z / 128) := by rw [gL, if_neg h]
def byG (p : Nat × Bool) : Nat := if p.2 then p.1 else p.1 + 128
theorem gL_enc : ∀ (z : Nat), (gL z).map byG = encG z := by
  intro z
  induction z using Nat.strongRecOn with
  | _ z ih =>
    by_cases h : z < 128
    · rw [gL_lt h, encG_lt h]; rfl
    · rw [gL_ge h, encG_ge h, List.map_cons, ih (z / 128) (by omega)]; rfl
theorem gL_128 : ∀ (z : Nat), ∀ p ∈ gL z, p.1 < 128 := by
  intro z
  induction z using Nat.strongRecOn with
  | _ z ih =>
    intro p hp
    by_cases h : z < 128
    · rw [gL_lt h, List.mem_singleton] at hp; subst hp; exact h
    · rw [gL_ge h] at hp
      rcases List.mem_cons.1 hp with rfl | hp
      · exact Nat.mod_lt _ (by decide)
      · exact ih _ (by omega) p hp
def encP (p : Nat × Bool) : Array Value := #[.int .u8 (p.1 : Int), .bool p.2]
theorem c_wgroups (z : Nat) (w : World) : Calls Tryz.prog 91 #[.int .u64 z] w fun e w' => e = .returned (.func (.func 107) #[] #[.pointer (some ⟨w.heap.size, 0, none⟩)]) ∧ w.alloc (.cells #[.int .u64 z] 110) = w' := by
  go_enter Tryz.func91, Tryz.ntmps91
  go_wp2
  go_ret
  exact ⟨rfl, rfl⟩
theorem mask127u (y : Nat) (h : y < 18446744073709551616) : bits .and .u64 (y : Int) 127 = ((y % 128 : Nat) : Int) := by
  have := bits_and_u64_nat y 127 (by omega) (by omega)
  rw [show (127 : Nat) = 2 ^ 7 - 1 by decide, Nat.and_two_pow_sub_one_eq_mod] at this
  exact this
theorem u8w (y : Nat) (h : y < 256) : IntKind.u8.wrap (y : Int) = (y : Int) := by simp [IntKind.wrap, IntKind.bits, IntKind.signed]; omega
set_option linter.unusedSimpArgs false in
set_option maxRecDepth 100000 in
set_option maxHeartbeats 4000000 in
theorem c_wgroupsC1 (n lp Bn n0 n1 : Nat) (hn1 : 1 ≤ n) (z : Nat) (hz : z < 18446744073709551616) (J : List (Nat × Bool) → World → Prop) (W : World)
    (hJ : ∀ pre W u, J pre W → J pre (W.setCell ⟨Bn, 0, none⟩ u))
    (hY : ∀ pre x W1, J pre W1 → (∃ t, gL z = (pre ++ [x]) ++ t) → YieldAt Fence.wide (n - 1) Tryz.prog lp (encP x) W1 fun e W' => e = .returned (.bool true) ∧ J (pre ++ [x]) W' ∧ Kb n0 Bn n1 W1 W')
    (hbx : Blk W Bn 110 [.int .u64 z]) (h0 : J [] W) :
    CallsIn Fence.wide n Tryz.prog 107 #[.func (.yield lp) #[] #[], .pointer (some ⟨Bn, 0, none⟩)] W fun e W' => (∃ v, e = .returned v) ∧ ∃ xs, xs = gL z ∧ J xs W' := by
  refine callsIn_of_wp Tryz.func107 rfl trivial ?_ rfl
  simp only [Tryz.ntmps107, List.size_toArray, List.length_cons, List.length_nil, Nat.reduceAdd, Nat.reduceSub, Array.replicate_succ, Array.replicate_zero, List.push_toArray, List.append_toArray, List.nil_append, List.cons_append]
  gi_wp2
  gi_loopw [3] (fun _ wr => ∃ (y : Nat) (pre : List (Nat × Bool)), pre ++ gL y = gL z ∧ y < 18446744073709551616 ∧ Blk wr Bn 110 [.int .u64 y] ∧ J pre wr) (fun _ wr => (intOf ((wr.cell? ⟨Bn, 0, none⟩).getD undef)).toNat)
  case atStart => exact ⟨z, [], rfl, hz, hbx, h0⟩
  case round =>
    obtain ⟨y, pre, hpre, hy, hblk, hJs⟩ := hrel
    have hc := hblk.cell 0
    have hfr := hblk.free 0
    have hlt := hblk.lt
    have hm := mask127u y hy
    by_cases h : y < 128
    · have hE := hide (show pre ++ [(y, true)] = gL z by rw [← hpre, gL_lt h])
      have hym : y % 128 = y := Nat.mod_eq_of_lt h
      rw [hym] at hm
      have hw8 := u8w y (by omega)
      have hyi : (y : Int) < 128 := by omega
      obtain ⟨fn, tmps, assign, body, hyy, hR⟩ := hY pre (y, true) wr hJs ⟨[], by rw [hE.out, List.append_nil]⟩
      simp only [encP] at hyy
      clear hpre hym
      gi_wp2
      refine hR.mono ?_
      clear hR hyy
      rintro e W3 ⟨rfl, hJ3, hk3⟩
      gi_wp2
      refine bodyPost_ret (results_none rfl _ _ _) rfl ?_
      exact ⟨⟨_, rfl⟩, _, hE.out, hJ3⟩
    · have hE := hide (show (pre ++ [(y % 128, false)]) ++ gL (y / 128) = gL z by rw [List.append_assoc, ← hpre, gL_ge h]; rfl)
      have hw8 := u8w (y % 128) (by omega)
      have hyi : ¬ ((y : Int) < 128) := by omega
      obtain ⟨fn, tmps, assign, body, hyy, hR⟩ := hY pre (y % 128, false) wr hJs ⟨gL (y / 128), hE.out.symm⟩
      simp only [encP] at hyy
      have HM := hide hm
      clear hpre
      generalize y % 128 = r at *
      gi_wp2
      refine hR.mono ?_
      clear hR hyy
      rintro e W3 ⟨rfl, hJ3, hk3⟩
      have hb3 : Blk W3 Bn 110 [.int .u64 y] := hk3.box _ hblk
      have hc3 := hb3.cell 0
      have hf3 := hb3.free 0
      have hl3 := hb3.lt
      have hlW : Bn < W3.heap.size := hl3
      have hset := hb3.set 0 (.int .u64 ((y : Int) / 128))
      have hJ4 := hJ _ _ (.int .u64 ((y : Int) / 128)) hJ3
      gi_wp2
      have hset' : Blk (W3.setCell ⟨Bn, 0, none⟩ (.int .u64 ((y : Int) / 128))) Bn 110 [.int .u64 ((y / 128 : Nat) : Int)] := by
        rw [show ((y / 128 : Nat) : Int) = (y : Int) / 128 by omega]
        exact hset
      refine ⟨⟨y / 128, _, hE.out, by omega, hset', hJ4⟩, ?_⟩
      have hcs : (W3.setCell ⟨Bn, 0, none⟩ (.int .u64 ((y : Int) / 128))).cell? ⟨Bn, 0, none⟩ = some (.int .u64 ((y / 128 : Nat) : Int)) := hset'.cell 0
      rw [hcs, hc]
      simp [intOf]
      omega
theorem zz_x (n : Int) (h1 : -4611686018427387903 ≤ n) (h2 : n ≤ 4611686018427387903) : bits .xor .u64 (IntKind.u64.wrap (IntKind.u64.wrap n * 2)) (IntKind.u64.wrap (n / 9223372036854775808)) = ((zz n : Nat) : Int) := by
  by_cases hn : n < 0
  · have e1 : IntKind.u64.wrap (IntKind.u64.wrap n * 2) = ((2 * n + 18446744073709551616).toNat : Int) := by rw [u64w, u64w]; omega
    have e2 : IntKind.u64.wrap (n / 9223372036854775808) = 18446744073709551615 := by rw [u64w]; omega
    have e3 : ((zz n : Nat) : Int) = 2 * (-n) - 1 := by unfold zz; rw [if_pos hn]; omega
    rw [e1, e2, e3]
    generalize hm : (2 * n + 18446744073709551616).toNat = m
    show IntKind.u64.wrap ((BitVec.ofInt 64 (m : Int) ^^^ BitVec.ofInt 64 18446744073709551615).toNat : Int) = _
    have h3 : BitVec.ofInt 64 18446744073709551615 = BitVec.allOnes 64 := by decide
    have h4 : BitVec.ofInt 64 (m : Int) = BitVec.ofNat 64 m := BitVec.ofInt_natCast ..
    rw [h3, BitVec.xor_allOnes, BitVec.toNat_not, h4, BitVec.toNat_ofNat, u64w]
    omega
  · have e1 : IntKind.u64.wrap (IntKind.u64.wrap n * 2) = ((2 * n).toNat : Int) := by rw [u64w, u64w]; omega
    have e2 : IntKind.u64.wrap (n / 9223372036854775808) = ((0 : Nat) : Int) := by rw [u64w]; omega
    have e3 : zz n = (2 * n).toNat := by unfold zz; rw [if_neg hn]
    rw [e1, e2, e3, u64_xor_nat _ _ (by omega) (by omega), Nat.xor_zero]
/-- what lies in memory between two rounds of PutInt's loop -/
def InPut (w : World) (B0 : Nat) (pre : List (Nat × Bool)) (W : World) : Prop :=
  B0 ≤ W.heap.size ∧ ∃ v, Blk W w.heap.size 63 [v] ∧ W.ownsRow (w.heap.size + 1 + 1) 5 1 v pre.length (bV (pre.map byG)) ∧ Below w.heap.size w W
def AxPut (n : Int) (z0 s0 : Nat) (x : Nat × Bool) (a : Act) (_ : World) : Prop := a =
    { tmps := #[.int .i64 n, undef, .string ⟨#[]⟩, .int .i64 0, .pointer (some ⟨s0, 0, none⟩), .int .u8 (x.1 : Int), .bool x.2, .int .i64 n, .bool false, .bool false, .int .i64 n, .bool (decide (4611686018427387903 < n)), .bool (decide (4611686018427387903 < n)), .int .i64 n,
      .int .u64 (IntKind.u64.wrap n), .int .u64 (IntKind.u64.wrap (IntKind.u64.wrap n * 2)), .int .i64 n, .int .i64 (n / 9223372036854775808), .int .u64 (IntKind.u64.wrap (n / 9223372036854775808)), .int .u64 (z0 : Int), .func (.func 107) #[] #[.pointer (some ⟨s0 + 1, 0, none⟩)],
      .int .u8 (x.1 : Int), .bool x.2, undef, undef, undef, undef, undef, undef, undef, undef, undef, undef], defers := [] }
theorem news1 {w : World} {g : Nat} {x : Value} (h0 : w.cell? ⟨g, 0, none⟩ = some x) : ∀ j u, [x][j]? = some u → w.cell? ((⟨g, 0, none⟩ : Addr).add j) = some u := by
  intro j u hu
  match j with
  | 0 => simp at hu; subst hu; simpa [Addr.add] using h0
  | j + 1 => simp at hu
theorem put_step {w X w3 : World} {n1 m : Nat} {v v' k : Value} {xs cs : List Value} {t0 : TypeId} (hX0 : n1 ≤ X.heap.size) (hn : w.heap.size + 1 + 1 ≤ n1) (hbx : Blk X w.heap.size 63 [v]) (hown : X.ownsRow (w.heap.size + 1 + 1) 5 1 v m xs) (hb : Below w.heap.size w X)
    (hown' : w3.ownsRow (w.heap.size + 1 + 1) 5 1 v' (m + 1) (xs ++ [k])) (hg : (X.alloc (.cells cs.toArray t0)).grownBy w3 v.ownBlock) :
    w3.cell? ⟨w.heap.size, 0, none⟩ = some v ∧ (w3.frozen? ⟨w.heap.size, 0, none⟩ = false ∧ w.heap.size < w3.heap.size) ∧ Kb w.heap.size (w.heap.size + 1) n1 X (w3.setCell ⟨w.heap.size, 0, none⟩ v') ∧
      (n1 ≤ (w3.setCell ⟨w.heap.size, 0, none⟩ v').heap.size ∧ ∃ v2, Blk (w3.setCell ⟨w.heap.size, 0, none⟩ v') w.heap.size 63 [v2] ∧ (w3.setCell ⟨w.heap.size, 0, none⟩ v').ownsRow (w.heap.size + 1 + 1) 5 1 v2 (m + 1) (xs ++ [k]) ∧ Below w.heap.size w (w3.setCell ⟨w.heap.size, 0, none⟩ v')) := by
  have hge := own_ge hown
  have hb3 : Blk w3 w.heap.size 63 [v] := (hbx.alloc _).grown hg (fun e => by have := hge _ e; omega)
  have hset : Blk (w3.setCell ⟨w.heap.size, 0, none⟩ v') w.heap.size 63 [v'] := hb3.set 0 v'
  have hsz : X.heap.size + 1 ≤ w3.heap.size := by have := hg.size; simpa using this
  have hcell : ∀ (k : Nat) (o : Obj), X.heap[k]? = some o → (∀ j, v.ownBlock = some j → k ≠ j) → k ≠ w.heap.size → (w3.setCell ⟨w.heap.size, 0, none⟩ v').heap[k]? = some o := by
    intro k o hk h1 h2
    have hlt := (Array.getElem?_eq_some_iff.1 hk).1
    rw [Below.heap_setCell w3 ⟨w.heap.size, 0, none⟩ v' k h2]
    rw [hg.block k (by simp; omega) (fun e => h1 k e.symm rfl)]
    exact (Below.heap_alloc X _ k hlt).trans hk
  have hbel : Below w.heap.size w (w3.setCell ⟨w.heap.size, 0, none⟩ v') := bset (bgrown (balloc hb _) hg (fun j e => by have := hge j e; omega)) (by simp) _
  refine ⟨hb3.cell 0, ⟨hb3.free 0, hb3.lt⟩, ⟨?_, fun k o hk ho hc => hcell k o ho (fun j e => ?_) (by omega), fun o ho => hcell _ o ho (fun j e => by have := hge j e; omega) (by omega)⟩, by have := hsz; simp; omega, v', hset, own_set hown' _ (by simp; omega) _, hbel⟩
  · exact (((Below.refl _ X).alloc hb.size _).grown hg (by have := hb.size; simp; omega) (fun j e => by have := hge j e; omega)).setCell (by simp) _
  · rintro rfl
    rcases hown.2 with ⟨rfl, _⟩ | ⟨g', cap, cur, rfl, _, hgb, _⟩
    · cases e
    · simp only [Value.ownBlock, Option.some.injEq] at e
      subst e
      rw [hgb] at ho; cases ho; cases hc
set_option linter.unusedSimpArgs false in
set_option maxRecDepth 100000 in
set_option maxHeartbeats 4000000 in
theorem c_wPutInt (n : Int) (w : World) : Calls Tryz.prog 70 #[.int .i64 n] w (StrPost (putI n) w) := by
  by_cases h1 : n < -maxI
  · have HE := hide (show putI n = none by unfold putI; rw [if_neg (by omega)])
    unfold maxI at h1
    go_enter Tryz.func70, Tryz.ntmps70
    go_wp2
    go_ret2
    rw [HE.out]
    exact ⟨Below.refl _ _, rfl⟩
  by_cases h2 : n > maxI
  · have HE := hide (show putI n = none by unfold putI; rw [if_neg (by omega)])
    unfold maxI at h1 h2
    go_enter Tryz.func70, Tryz.ntmps70
    go_wp2
    go_ret2
    rw [HE.out]
    exact ⟨Below.refl _ _, rfl⟩
  have HE := hide (show putI n = some (nB (encG (zz n))) by unfold putI; rw [if_pos ⟨by omega, by omega⟩]; rfl)
  have hzl := zz_lt (n := n) (by omega) (by omega)
  have hgl : (gL (zz n)).length ≤ 9 := by
    have := encG_len 8 (zz n) (Nat.lt_of_lt_of_le hzl (by decide))
    rw [← gL_enc, List.length_map] at this
    exact this
  unfold maxI at h1 h2
  have hn3 : -4611686018427387903 ≤ n := by omega
  have hn4 : n ≤ 4611686018427387903 := by omega
  obtain ⟨j0, hj0, hz0, hz1, hz2⟩ := info_parts Tryz.infoByte
  clear h1 h2
  refine callsIn_wide.1 (callsIn_of_wp_marks (n := 7) Tryz.func70 rfl trivial ?_ rfl)
  simp only [Tryz.ntmps70, List.size_toArray, List.length_cons, List.length_nil, Nat.reduceAdd, Nat.reduceSub, Array.replicate_succ, Array.replicate_zero, List.push_toArray, List.append_toArray, List.nil_append, List.cons_append]
  refine wpIn_wide.2 ?_
  have hzx := zz_x n hn3 hn4
  go_wp2_with fail
  refine (c_wgroups (zz n) _).mono ?_
  rintro e w1 ⟨rfl, hw1⟩
  clear hzx
  generalize zz n = z0 at *
  have gO : Blk w1 w.heap.size 63 [.slice none 0 0] := by rw [← hw1]; exact (Blk.new w 63 [.slice none 0 0]).alloc _
  have gB : Blk w1 (w.heap.size + 1) 110 [.int .u64 z0] := by
    rw [← hw1]
    have := Blk.new (w.alloc (.cells #[.slice none 0 0] 63)) 110 [.int .u64 z0]
    rw [show (w.alloc (.cells #[.slice none 0 0] 63)).heap.size = w.heap.size + 1 from by simp] at this
    exact this
  have hb1 : Below w.heap.size w w1 := by rw [← hw1]; exact balloc (balloc (Below.refl _ _) _) _
  have hs1 : w1.heap.size = w.heap.size + 1 + 1 := by rw [← hw1]; simp
  rw [show (w.alloc (.cells #[.slice none 0 0] 63)).heap.size = w.heap.size + 1 from by simp]
  clear hw1
  go_wp2_with fail
  refine (wpIn_wide (n := 7)).1 (range_B (α := Nat × Bool) rfl (by omega) (gf := 107) (lb := #[.pointer (some ⟨w.heap.size + 1, 0, none⟩)]) rfl trivial (enters_of Tryz.func107 (by kernel_rfl) rfl)
    (encs := encP) (n0 := w.heap.size) (Bn := w.heap.size + 1) (S := fun ys => ys = gL z0) (Sp := fun ys => ∃ t, gL z0 = ys ++ t) (w0 := w1) (by omega) (by omega) ?hseq (Below.refl _ _) (fun _ => rfl)
    (InPut w w1.heap.size) ?hI ?hIs ?h0 (AxPut n z0 w.heap.size) ?hAx ?assign ?body ?done)
  case hseq =>
    intro lp J W hlp hW hJ hY h0'
    refine (c_wgroupsC1 6 lp (w.heap.size + 1) w.heap.size w1.heap.size (by omega) z0 (by omega) J W hJ (fun pre x W1 hj hp => hY pre x W1 hj hp) (gB.below hW gB.lt) h0').mono ?_
    rintro e X ⟨hv, xs, h1, h2⟩
    exact ⟨hv, xs, h1, h2⟩
  case hI =>
    rintro pre X Y row ⟨hB0', v, hbx, hown, hb⟩ hg hrow
    refine ⟨Nat.le_trans hB0' hg.size, v, hbx.grown hg (fun e => by have := (hrow _ e).1; omega), hown.kept hg ?_, bgrown hb hg (fun k e => by have := (hrow k e).1; omega)⟩
    rcases hown.2 with ⟨rfl, _⟩ | ⟨g', cap, cur, rfl, _, hgb, _⟩
    · exact .inl rfl
    · refine .inr fun e' => ?_
      obtain ⟨_, o, ho, hc⟩ := hrow g' (by simpa [Value.ownBlock] using e'.symm)
      rw [hgb] at ho; cases ho; cases hc
  case hIs =>
    rintro pre X u ⟨hB0', v, hbx, hown, hb⟩
    exact ⟨by simpa using hB0', v, hbx.other (by simp) _, own_set hown _ (by simp) _, bset hb (by simp) _⟩
  case h0 => exact ⟨Nat.le_refl _, _, gO, (by exact World.ownsRow_nil _ _ _ _), hb1⟩
  case hAx =>
    rintro x a' _ X Y row h hg hrow
    exact h
  case assign =>
    intro lp pre x X K' hIn hK'
    simp only [encP]
    gi_wp2
    exact hK' _ _ (Kb.refl _ _ _ _) hIn rfl
  case body =>
    rintro lp pre x a' X hlp ⟨rc, hrc⟩ ⟨hX0, v, hbx, hown, hb⟩ rfl ⟨t, ht⟩
    have hx128 := gL_128 z0 x (by rw [ht]; simp)
    have hpl : pre.length + 1 ≤ 9 := by
      have := congrArg List.length ht
      simp at this
      omega
    have hcb := hbx.cell 0
    have hfb := hbx.free 0
    have hbl := hbx.lt
    obtain ⟨g, b⟩ := x
    dsimp only at hx128 ⊢
    cases b with
    | true =>
      gi_wp2_with (gi_at_builtin; refine wpListIn_append_own _ rfl _ _ 63 rfl (w.heap.size + 1 + 1) 5 j0 (.int .u8 0) 1 1 Tryz.underlying63 hj0 hz0 hz1 hz2 rfl (by decide) _ _ _ rfl (hown.alloc _) ⟨X.heap.size, 0, none⟩ 1 1 [.int .u8 (g : Int)] rfl rfl (news1 (by go_simp)) (by simp [Value.oneCell']) (by unfold maxLen; omega) (by omega) (by simp; omega) ?_; intro v' w3 hown' hgrow _; obtain ⟨g', cap', rfl⟩ := ownsRow_succ hown'; obtain ⟨p1, ⟨p2, p5⟩, p3, p4⟩ := put_step (k := .int .u8 (g : Int)) hX0 (by omega) hbx hown hb hown' hgrow)
      exact ⟨p3, by simpa [InPut, bV, byG] using p4⟩
    | false =>
      have hor := u8_or128_right (g : Int) (by omega) (by omega)
      gi_wp2_with (gi_at_builtin; refine wpListIn_append_own _ rfl _ _ 63 rfl (w.heap.size + 1 + 1) 5 j0 (.int .u8 0) 1 1 Tryz.underlying63 hj0 hz0 hz1 hz2 rfl (by decide) _ _ _ rfl (hown.alloc _) ⟨X.heap.size, 0, none⟩ 1 1 [.int .u8 ((g : Int) + 128)] rfl rfl (news1 (by go_simp)) (by simp [Value.oneCell']) (by unfold maxLen; omega) (by omega) (by simp; omega) ?_; intro v' w3 hown' hgrow _; obtain ⟨g', cap', rfl⟩ := ownsRow_succ hown'; obtain ⟨p1, ⟨p2, p5⟩, p3, p4⟩ := put_step (k := .int .u8 ((g : Int) + 128)) hX0 (by omega) hbx hown hb hown' hgrow)
      exact ⟨p3, by simpa [InPut, bV, byG] using p4⟩
  case done =>
    rintro D ys W hD rfl ⟨hB0', v, hbx, hown, hb⟩ hK
    have hcb := hbx.cell 0
    have hbl := hbx.lt
    have hpos : 0 < (gL z0).length := by rw [gL]; split <;> simp
    obtain ⟨Av, cv, rfl, h1, h2, hs⟩ := SlR.of_own hown
    rw [gL_enc] at hs
    have hcv := conv_bytes hs hpos (encG_256 z0) cv
    have HB := hide hb
    clear hs hown hb hbx
    generalize (gL z0).length = m at *
    go_wp2
    refine ⟨by simp, .inl ⟨_, _, rfl, run_takeDeferred hK, ?_⟩⟩
    refine ⟨.tuple #[.string (nB (encG z0)), .int .i64 0], by simp [results, Tryz.results70, go_sem], ?_, ?_⟩
    · exact HB.out.trans (belowK_b (w := w) (Nat.le_refl _) W D _ _ (by omega) hK rfl rfl)
    · rw [HE.out]; rfl
set_option linter.unusedSimpArgs false in
set_option maxRecDepth 100000 in
set_option maxHeartbeats 4000000 in
theorem c_wPutString (s : ByteArray) (w : World) : Calls Tryz.prog 71 #[.string s] w (StrPost (putS s) w) := by
  by_cases h1 : s.size ≤ 65536
  · have HE := hide (show putS s = some (encI s.size ++ s) by unfold putS; rw [if_pos h1]; rfl)
    have hpI : putI (s.size : Int) = some (encI s.size) := by unfold putI maxI; rw [if_pos ⟨by omega, by omega⟩]
    have hk := c_wPutInt (s.size : Int) w
    rw [hpI] at hk
    have hn : ¬ (65536 < (s.size : Int)) := by omega
    have hsum : (encI s.size).size + s.size ≤ 9223372036854775807 := by have := encI_size (n := (s.size : Int)) (by unfold maxI; omega) (by unfold maxI; omega); omega
    generalize encI s.size = hd at *
    clear hpI
    go_enter Tryz.func71, Tryz.ntmps71
    go_wp2_with (go_at_call 70; refine hk.mono ?_; clear hk; rintro e w1 ⟨hb, rfl⟩; simp only [Option.getD_some, Option.isSome_some, if_true])
    go_ret2
    rw [HE.out]
    exact ⟨hb, rfl⟩
  · have HE := hide (show putS s = none by unfold putS; rw [if_neg h1])
    have hn : 65536 < (s.size : Int) := by omega
    go_enter Tryz.func71, Tryz.ntmps71
    go_wp2
    go_ret2
    rw [HE.out]
    exact ⟨Below.refl _ _, rfl⟩
end Go.Proofs.YtcfbgelhggapjaaGreatDoor
