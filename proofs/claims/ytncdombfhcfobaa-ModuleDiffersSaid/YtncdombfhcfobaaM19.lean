/- Contracts: the reference's Item and pick, the law's pick, box and at. -/
import Derived.Test.YtncdombfhcfobaaM18
namespace Go.Proofs.Ytncdombfhcfobaa
open Go.RowKit
/-- an arbitrary integer as an index -/
def pk (c n : Int) : Int := if c < 0 then (-(c + 1)) % n else c % n
theorem pk_range (c n : Int) (hn : 1 ≤ n) : 0 ≤ pk c n ∧ pk c n < n := by
  unfold pk
  split
  · exact ⟨Int.emod_nonneg _ (by omega), Int.emod_lt_of_pos _ (by omega)⟩
  · exact ⟨Int.emod_nonneg _ (by omega), Int.emod_lt_of_pos _ (by omega)⟩
theorem c_rpick (c n : Int) (w : World) (hc : -9223372036854775808 ≤ c) (hc' : c ≤ 9223372036854775807) (hn : 1 ≤ n) (hn' : n ≤ 9223372036854775807) :
    Calls Try.prog 36 #[.int .i64 c, .int .i64 n] w fun e w' => e = .returned (.int .i64 (pk c n)) ∧ w = w' := by
  by_cases h : c < 0
  · go_enter Try.func36, Try.ntmps36
    go_wp2
    go_ret
    exact ⟨ret_int (by unfold pk; rw [if_pos h, ← Int.neg_tmod, Int.tmod_eq_emod_of_nonneg (by omega)]), rfl⟩
  · go_enter Try.func36, Try.ntmps36
    go_wp2
    go_ret
    exact ⟨ret_int (by unfold pk; rw [if_neg (by omega)]), rfl⟩
theorem c_lpick (c n : Int) (w : World) (hc : -9223372036854775808 ≤ c) (hc' : c ≤ 9223372036854775807) (hn : 1 ≤ n) (hn' : n ≤ 9223372036854775807) :
    Calls Try.prog 23 #[.int .i64 c, .int .i64 n] w fun e w' => e = .returned (.int .i64 (pk c n)) ∧ w = w' := by
  by_cases h : c < 0
  · go_enter Try.func23, Try.ntmps23
    go_wp2
    go_ret
    exact ⟨ret_int (by unfold pk; rw [if_pos h, ← Int.neg_tmod, Int.tmod_eq_emod_of_nonneg (by omega)]), rfl⟩
  · go_enter Try.func23, Try.ntmps23
    go_wp2
    go_ret
    exact ⟨ret_int (by unfold pk; rw [if_neg (by omega)]), rfl⟩
theorem c_box (id x y : Int) (s : ByteArray) (w : World) :
    Calls Try.prog 29 #[.int .i64 id, .int .i64 x, .int .i64 y, .string s] w fun e w' => e = .returned (itV ⟨id, 1, x, y, s, 0⟩) ∧ Below w.heap.size w w' := by
  go_enter Try.func29, Try.ntmps29
  go_wp2
  exact bodyPost_ret (v := itV ⟨id, 1, x, y, s, 0⟩) (by simp [results, Try.results29, go_sem]) rfl ⟨rfl, balloc (Below.refl _ _) _⟩
/-- a place that an instance comes to, as it lies in memory -/
structure PR where
  a : Option Addr
  n : Nat
  c : Nat
  x : Int
  y : Int
  text : ByteArray
abbrev prV (r : PR) : Value := .agg #[.slice r.a r.n r.c, .int .i64 r.x, .int .i64 r.y, .string r.text]
def cP (r : PR) : List Value := [.slice r.a r.n r.c, .int .i64 r.x, .int .i64 r.y, .string r.text]
theorem c_at (x y : Int) (s : ByteArray) (A : Option Addr) (n c : Nat) (w : World) :
    Calls Try.prog 30 #[.int .i64 x, .int .i64 y, .string s, .slice A n c] w fun e w' => e = .returned (prV ⟨A, n, c, x, y, s⟩) ∧ Below w.heap.size w w' := by
  go_enter Try.func30, Try.ntmps30
  go_wp2
  exact bodyPost_ret (v := prV ⟨A, n, c, x, y, s⟩) (by simp [results, Try.results30, go_sem]) rfl ⟨rfl, balloc (Below.refl _ _) _⟩
/-- what the reference's Item returns -/
def itemV (o : Option It) : Value := match o with
  | some x => .tuple #[itV x, .bool true]
  | none => .tuple #[itV zIt, .bool false]
theorem c_rItem (A : Option Addr) (n c : Nat) (l : List It) (id : Int) (w : World) (hn : n ≤ 9223372036854775807) (hr : SlR w w.heap.size 6 A n (l.flatMap cI)) :
    Calls Try.prog 13 #[.slice A n c, .int .i64 id] w fun e w' => e = .returned (itemV (getI l id)) ∧ Below w.heap.size w w' := by
  have hl := hr.lenI
  have gZ : Blk (w.alloc (.cells #[.int .i64 0, .int .i64 0, .int .i64 0, .int .i64 0, .string ⟨#[]⟩, .int .i64 0] 36)) w.heap.size 36 (cI zIt) := Blk.new w 36 (cI zIt)
  have hb0 := balloc (Below.refl w.heap.size w) (.cells #[.int .i64 0, .int .i64 0, .int .i64 0, .int .i64 0, .string ⟨#[]⟩, .int .i64 0] 36)
  have hr0 := hr.to' hb0
  clear hr
  have HL := hide hl
  go_enter Try.func13, Try.ntmps13
  go_wp2
  generalize hw0 : w.alloc (.cells #[.int .i64 0, .int .i64 0, .int .i64 0, .int .i64 0, .string ⟨#[]⟩, .int .i64 0] 36) = w0 at *
  have HW0 := hide hw0
  clear hw0
  go_loop [6] (fun i => ∃ k : Nat, k ≤ n ∧ i = .int .i64 k ∧ getI l id = getI (l.drop k) id) (fun i => n - (intOf i).toNat)
  case atStart => exact ⟨0, Nat.zero_le _, rfl, rfl⟩
  case round =>
    obtain ⟨k, hk, rfl, hg⟩ := hrel
    by_cases hlt : k < n
    · have hkl : k < l.length := by omega
      obtain ⟨b, off, rfl, hbb, x0, x1, x2, x3, x4, x5⟩ := hr0.atI (Below.refl _ _) hkl
      have hd : l.drop k = l[k] :: l.drop (k + 1) := List.drop_eq_getElem_cons hkl
      rw [hd] at hg
      have HG := hide hg
      have hji : (k : Int) < (n : Int) := by omega
      obtain ⟨y0, y1, y2, y3, y4, y5⟩ := gZ.allI
      have hgl := gZ.lt
      have u0 := gZ.free 0
      have u1 := gZ.free 1
      have u2 := gZ.free 2
      have u3 := gZ.free 3
      have u4 := gZ.free 4
      have u5 := gZ.free 5
      clear hg hd hr0 hl
      generalize l[k] = s at *
      by_cases he : s.id = id
      · have hd0 : (s.id == id) = true := by simpa using he
        have HE := hide he
        clear he
        go_wp2
        exact bodyPost_ret (v := .tuple #[itV s, .bool true]) (by simp [results, Try.results13, go_sem, y0, y1, y2, y3, y4, y5]) rfl ⟨by rw [HG.out, getI, List.find?_cons]; simp [HE.out, itemV], (bset (bset (bset (bset (bset (bset hb0 (Nat.le_refl _) _) (Nat.le_refl _) _) (Nat.le_refl _) _) (Nat.le_refl _) _) (Nat.le_refl _) _) (Nat.le_refl _) _)⟩
      · have hd0 : (s.id == id) = false := by simpa using he
        have HE := hide he
        clear he
        go_wp2
        go_round
        case rel => exact ⟨k + 1, by omega, by go_num, by rw [HG.out, getI, List.find?_cons]; simp [HE.out]; rfl⟩
        case measure => simp [intOf]; omega
    · have HG := hide hg
      obtain ⟨y0, y1, y2, y3, y4, y5⟩ := gZ.allI
      have hgl := gZ.lt
      have u0 := gZ.free 0
      have u1 := gZ.free 1
      have u2 := gZ.free 2
      have u3 := gZ.free 3
      have u4 := gZ.free 4
      have u5 := gZ.free 5
      clear hg hr0 hl
      go_wp2
      exact bodyPost_ret (v := .tuple #[itV zIt, .bool false]) (by simp [results, Try.results13, go_sem, y0, y1, y2, y3, y4, y5]; exact ⟨rfl, rfl, rfl, rfl, rfl, rfl⟩) rfl ⟨by rw [HG.out, List.drop_eq_nil_of_le (by have := HL.out; omega)]; rfl, (bset (bset (bset (bset (bset (bset hb0 (Nat.le_refl _) _) (Nat.le_refl _) _) (Nat.le_refl _) _) (Nat.le_refl _) _) (Nat.le_refl _) _) (Nat.le_refl _) _)⟩
end Go.Proofs.Ytncdombfhcfobaa
