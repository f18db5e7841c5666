/- Contracts: the reference's Item and pick, the law's pick, box and at. -/
import Derived.Test.YtncdombfhcfobaaM18
namespace Go.Proofs.Ytncdombfhcfobaa
open Go.RowKit
/-- an arbitrary integer as an index -/
def pk (c n : Int) : Int := if c < 0 then (-(c + 1)) % n else c % n
theorem pk_range (c n : Int) (hn : 1 ≤ n) : 0 ≤ pk c n ∧ pk c n < n := by
  unfold pk
  split
  · exact ⟨Int.emod_nonneg _ (by omega), Int.emod_lt_of_pos _ (by omega)⟩
  · exact ⟨Int.emod_nonneg _ (by omega), Int.emod_lt_of_pos _ (by omega)⟩
theorem c_rpick (c n : Int) (w : World) (hc : -9223372036854775808 ≤ c) (hc' : c ≤ 9223372036854775807) (hn : 1 ≤ n) (hn' : n ≤ 9223372036854775807) :
    Calls Try.prog 36 #[.int .i64 c, .int .i64 n] w fun e w' => e = .returned (.int .i64 (pk c n)) ∧ w = w' := by
  by_cases h : c < 0
  · go_enter Try.func36, Try.ntmps36
    go_wp2
    go_ret
    exact ⟨ret_int (by unfold pk; rw [if_pos h, ← Int.neg_tmod, Int.tmod_eq_emod_of_nonneg (by omega)]), rfl⟩
  · go_enter Try.func36, Try.ntmps36
    go_wp2
    go_ret
    exact ⟨ret_int (by unfold pk; rw [if_neg (by omega)]), rfl⟩
theorem c_lpick (c n : Int) (w : World) (hc : -9223372036854775808 ≤ c) (hc' : c ≤ 9223372036854775807) (hn : 1 ≤ n) (hn' : n ≤ 9223372036854775807) :
    Calls Try.prog 23 #[.int .i64 c, .int .i64 n] w fun e w' => e = .returned (.int .i64 (pk c n)) ∧ w = w' := by
  by_cases h : c < 0
  · go_enter Try.func23, Try.ntmps23
    go_wp2
    go_ret
    exact ⟨ret_int (by unfold pk; rw [if_pos h, ← Int.neg_tmod, Int.tmod_eq_emod_of_nonneg (by omega)]), rfl⟩
  · go_enter Try.func23, Try.ntmps23
    go_wp2
    go_ret
    exact ⟨ret_int (by unfold pk; rw [if_neg (by omega)]), rfl⟩
theorem c_box (id x y : Int) (s : ByteArray) (w : World) :
    Calls Try.prog 29 #[.int .i64 id, .int .i64 x, .int .i64 y, .string s] w fun e w' => e = .returned (itV ⟨id, 1, x, y, s, 0⟩) ∧ Below w.heap.size w w' := by
  go_enter Try.func29, Try.ntmps29
  go_wp2
  exact bodyPost_ret (v := itV ⟨id, 1, x, y, s, 0⟩) (by simp [results, Try.results29, go_sem]) rfl ⟨rfl, balloc (Below.refl _ _) _⟩
/-- a place that an instance comes to, as it lies in memory -/
structure PR where
  a : Option Addr
  n : Nat
  c : Nat
  x : Int
  y : Int
  text : ByteArray
abbrev prV (r : PR) : Value := .agg #[.slice r.a r.n r.c, .int .i64 r.x, .int .i64 r.y, .string r.text]
def cP (r : PR) : List Value := [.slice r.a r.n r.c, .int .i64 r.x, .int .i64 r.y, .string r.text]
theorem c_at (x y : Int) (s : ByteArray) (A : Option Addr) (n c : Nat) (w : World) :
    Calls Try.prog 30 #[.int .i64 x, .int .i64 y, .string s, .slice A n c] w fun e w' => e = .returned (prV ⟨A, n, c, x, y, s⟩) ∧ Below w.heap.size w w' := by
  go_enter Try.func30, Try.ntmps30
  go_wp2
  exact bodyPost_ret (v := prV ⟨A, n, c, x, y, s⟩) (by simp [results, Try.results30, go_sem]) rfl ⟨rfl, balloc (Below.refl _ _) _⟩
/-- what the reference's Item returns -/
def itemV (o : Option It) : Value := match o with
  | some x => .tuple #[itV x, .bool true]
  | none => .tuple #[itV zIt, .bool false]
theorem c_rItem (A : Option Addr) (n c : Nat) (l : List It) (id : Int) (w : World) (hn : n ≤ 9223372036854775807) (hr : SlR w w.heap.size 6 A n (l.flatMap cI)) :
    Calls Try.prog 13 #[.slice A n c, .int .i64 id] w fun e w' => e = .returned (itemV (getI l id)) ∧ Below w.heap.size w w' := by
  have hl := hr.lenI
  have gZ : Blk (w.alloc (.cells #[.int .i64 0, .int .i64 0, .int .i64 0, .int .i64 0, .string ⟨#[]⟩, .int .i64 0] 36)) w.heap.size 36 (cI zIt) := Blk.new w 36 (cI zIt)
  have hb0 := balloc (Below.refl w.heap.size w) (.cells #[.int .i64 0, .int .i64 0, .int .i64 0, .int .i64 0, .string ⟨#[]⟩, .int .i64 0] 36)
  have hr0 := hr.to' hb0
  clear hr
  have HL := hide hl
  go_enter Try.func13, Try.ntmps13
  go_wp2
  generalize hw0 : w.alloc (.cells #[.int .i64 0, .int .i64 0, .int .i64 0, .int .i64 0, .string ⟨#[]⟩, .int .i64 0] 36) = w0 at *
  have HW0 := hide hw0
  clear hw0
  go_loop [6] (fun i => ∃ k : Nat, k ≤ n ∧ i = .int .i64 k ∧ getI l id = getI (l.drop k) id) (fun i => n - (intOf i).toNat)
  case atStart => exact ⟨0, Nat.zero_le _, rfl, rfl⟩
  case round =>
    obtain ⟨k, hk, rfl, hg⟩ := hrel
    by_cases hlt : k < n
    · have hkl : k < l.length := by omega
      obtain ⟨b, off, rfl, hbb, x0, x1, x2, x3, x4, x5⟩ := hr0.atI (Below.refl _ _) hkl
      have hd : l.drop k = l[k] :: l.drop (k + 1) := List.drop_eq_getElem_cons hkl
      rw [hd] at hg
      have HG := hide hg
      have hji : (k : Int) < (n : Int) := by omega
      obtain ⟨y0, y1, y2, y3, y4, y5⟩ := gZ.allI
      have hgl := gZ.lt
      have u0 := gZ.free 0
      have u1 := gZ.free 1
      have u2 := gZ.free 2
      have u3 := gZ.free 3
      have u4 := gZ.free 4
      have u5 := gZ.free 5
      clear hg hd hr0 hl
      generalize l[k] = s at *
      by_cases he : s.id = id
      · have hd0 : (s.id == id) = true := by simpa using he
        have HE := hide he
        clear he
        go_wp2
        exact bodyPost_ret (v := .tuple #[itV s, .bool true]) (by simp [results, Try.results13, go_sem, y0, y1, y2, y3, y4, y5]) rfl ⟨by rw [HG.out, getI, List.find?_cons]; simp [HE.out, itemV], (bset (bset (bset (bset (bset (bset hb0 (Nat.le_refl _) _) (Nat.le_refl _) _) (Nat.le_refl _) _) (Nat.le_refl _) _) (Nat.le_refl _) _) (Nat.le_refl _) _)⟩
      · have hd0 : (s.id == id) = false := by simpa using he
        have HE := hide he
        clear he
        go_wp2
        go_round
        case rel => exact ⟨k + 1, by omega, by go_num, by rw [HG.out, getI, List.find?_cons]; simp [HE.out]; rfl⟩
        case measure => simp [intOf]; omega
    · have HG := hide hg
      obtain ⟨y0, y1, y2, y3, y4, y5⟩ := gZ.allI
      have hgl := gZ.lt
      have u0 := gZ.free 0
      have u1 := gZ.free 1
      have u2 := gZ.free 2
      have u3 := gZ.free 3
      have u4 := gZ.free 4
      have u5 := gZ.free 5
      clear hg hr0 hl
      go_wp2
      exact bodyPost_ret (v := .tuple #[itV zIt, .bool false]) (by simp [results, Try.results13, go_sem, y0, y1, y2, y3, y4, y5]; exact ⟨rfl, rfl, rfl, rfl, rfl, rfl⟩) rfl ⟨by rw [HG.out, List.drop_eq_nil_of_le (by have := HL.out; omega)]; rfl, (bset (bset (bset (bset (bset (bset hb0 (Nat.le_refl _) _) (Nat.le_refl _) _) (Nat.le_refl _) _) (Nat.le_refl _) _) (Nat.le_refl _) _) (Nat.le_refl _) _)⟩
end Go.Proofs.Ytncdombfhcfobaa
/- Contract: SameCopy. -/
namespace Go.Proofs.Ytncdombfhcfobaa
open Go.RowKit
theorem eqPl (w : World) (a p b q : Int) : (Op.equalIn 10000 34 (.agg #[.int .i64 a, .int .i64 p]) (.agg #[.int .i64 b, .int .i64 q])).run Try.prog w = .ok (decide (a = b ∧ p = q)) w := by
  rw [run_equalIn_struct w 9999 34 _ _ (by kernel_rfl) (by kernel_rfl)]
  simp only [Program.fieldsOf, Try.underlying34]
  simp [go_sem, Op.eqFields]
  by_cases h1 : a = b <;> by_cases h2 : p = q <;> simp [h1, h2]
theorem eqlPl (w : World) (a p b q : Int) : (binOp .eql 34 (.agg #[.int .i64 a, .int .i64 p]) (.agg #[.int .i64 b, .int .i64 q])).run Try.prog w = .ok (.bool (decide (a = b ∧ p = q))) w := by
  simp only [binOp]
  have := eqPl w a p b q
  simp [Op.equal, Op.maxDepth] at this ⊢
  rw [this]; rfl
def sameCp (c d : Cp) : Bool := decide (c.code = d.code) && decide (c.mod = d.mod) && decide (c.x = d.x ∧ c.y = d.y) && decide (c.changes = d.changes) && decide (c.gone = d.gone)
set_option maxRecDepth 100000 in
set_option maxHeartbeats 2000000 in
theorem c_SameCopy (r s : CR) (c d : Cp) (w : World) (h : CpR w r c) (k : CpR w s d) :
    Calls Try.prog 35 #[crV r, crV s] w fun e w' => e = .returned (.bool (sameCp c d)) ∧ Below w.heap.size w w' := by
  have hb0 := balloc (balloc (Below.refl w.heap.size w) (.cells #[.int .i64 r.code, .int .i64 r.mod, .int .i64 r.x, .int .i64 r.y, .slice r.a r.n r.c, .slice r.a2 r.n2 r.c2] 45)) (.cells #[.int .i64 s.code, .int .i64 s.mod, .int .i64 s.x, .int .i64 s.y, .slice s.a s.n s.c, .slice s.a2 s.n2 s.c2] 45)
  have h0 := h.to hb0
  have k0 := k.to hb0
  obtain ⟨⟨e1, e2, e3, e4⟩, ⟨_, hn, hr⟩, ⟨_, hm, hs⟩⟩ := h0
  obtain ⟨⟨f1, f2, f3, f4⟩, ⟨_, kn, kr⟩, ⟨_, km, ks⟩⟩ := k0
  have hcI := c_eqItem r.a r.n r.c c.changes s.a s.n s.c d.changes _ (by omega) (by omega) hr kr
  have gR : Blk ((w.alloc (.cells #[.int .i64 r.code, .int .i64 r.mod, .int .i64 r.x, .int .i64 r.y, .slice r.a r.n r.c, .slice r.a2 r.n2 r.c2] 45)).alloc (.cells #[.int .i64 s.code, .int .i64 s.mod, .int .i64 s.x, .int .i64 s.y, .slice s.a s.n s.c, .slice s.a2 s.n2 s.c2] 45)) w.heap.size 45 (cC r) := (Blk.new w 45 (cC r)).alloc _
  have gS : Blk ((w.alloc (.cells #[.int .i64 r.code, .int .i64 r.mod, .int .i64 r.x, .int .i64 r.y, .slice r.a r.n r.c, .slice r.a2 r.n2 r.c2] 45)).alloc (.cells #[.int .i64 s.code, .int .i64 s.mod, .int .i64 s.x, .int .i64 s.y, .slice s.a s.n s.c, .slice s.a2 s.n2 s.c2] 45)) (w.heap.size + 1) 45 (cC s) := by
    have := Blk.new (w.alloc (.cells #[.int .i64 r.code, .int .i64 r.mod, .int .i64 r.x, .int .i64 r.y, .slice r.a r.n r.c, .slice r.a2 r.n2 r.c2] 45)) 45 (cC s)
    rw [show (w.alloc (.cells #[.int .i64 r.code, .int .i64 r.mod, .int .i64 r.x, .int .i64 r.y, .slice r.a r.n r.c, .slice r.a2 r.n2 r.c2] 45)).heap.size = w.heap.size + 1 from by simp] at this
    exact this
  have HE : Hid (sameCp c d = (decide (r.code = s.code) && decide (r.mod = s.mod) && decide (r.x = s.x ∧ r.y = s.y) && decide (c.changes = d.changes) && decide (c.gone = d.gone))) := hide (by unfold sameCp; rw [e1, e2, e3, e4, f1, f2, f3, f4])
  have HS := hide (And.intro hs ks)
  clear h k e1 e2 e3 e4 f1 f2 f3 f4 hr kr hs ks
  unfold crV
  by_cases h1 : r.code = s.code
  · have d1 : (r.code == s.code) = true := by simpa using h1
    by_cases h2 : r.mod = s.mod
    · have d2 : (r.mod == s.mod) = true := by simpa using h2
      by_cases h3 : r.x = s.x ∧ r.y = s.y
      · have HE := hide (show sameCp c d = (decide (c.changes = d.changes) && decide (c.gone = d.gone)) by rw [HE.out]; simp [h1, h2, h3])
        have q3 : ∀ w, (binOp .eql 34 (.agg #[.int .i64 r.x, .int .i64 r.y]) (.agg #[.int .i64 s.x, .int .i64 s.y])).run Try.prog w = .ok (.bool true) w := fun w => by rw [eqlPl]; simp [h3]
        clear h1 h2 h3
        go_enter Try.func35, Try.ntmps35
        go_wp2_with fail
        refine hcI.mono ?_
        clear hcI
        rintro e w1 ⟨rfl, hb1⟩
        obtain ⟨_, _, _, _, _, x5⟩ := (gR.below hb1 gR.lt).allC
        obtain ⟨_, _, _, _, _, y5⟩ := (gS.below hb1 gS.lt).allC
        have hl1 := (gS.below hb1 gS.lt).lt
        have hb01 := bthen hb0 hb1
        by_cases h4 : c.changes = d.changes
        · have d4 : decide (c.changes = d.changes) = true := by simpa using h4
          have HE := hide (show sameCp c d = decide (c.gone = d.gone) by rw [HE.out, d4]; rfl)
          have hcN := c_eqInt r.a2 r.n2 r.c2 c.gone s.a2 s.n2 s.c2 d.gone _ (by omega) (by omega) (HS.out.1.to' hb1) (HS.out.2.to' hb1)
          clear h4 gR gS
          go_wp2_with fail
          refine hcN.mono ?_
          clear hcN
          rintro e w2 ⟨rfl, hb2⟩
          go_wp2
          go_ret
          exact ⟨ret_bool HE.out.symm, bthen hb01 hb2⟩
        · have d4 : decide (c.changes = d.changes) = false := by simpa using h4
          have HE := hide (show sameCp c d = false by rw [HE.out, d4]; rfl)
          clear h4 gR gS
          go_wp2
          go_ret
          exact ⟨ret_bool HE.out.symm, hb01⟩
      · have HE := hide (show sameCp c d = false by rw [HE.out]; simp [h3])
        have q3 : ∀ w, (binOp .eql 34 (.agg #[.int .i64 r.x, .int .i64 r.y]) (.agg #[.int .i64 s.x, .int .i64 s.y])).run Try.prog w = .ok (.bool false) w := fun w => by rw [eqlPl]; simp [h3]
        clear h1 h2 h3 hcI gR gS
        go_enter Try.func35, Try.ntmps35
        go_wp2
        go_ret
        exact ⟨ret_bool HE.out.symm, hb0⟩
    · have d2 : (r.mod == s.mod) = false := by simpa using h2
      have HE := hide (show sameCp c d = false by rw [HE.out]; simp [h2])
      clear h1 h2 hcI gR gS
      go_enter Try.func35, Try.ntmps35
      go_wp2
      go_ret
      exact ⟨ret_bool HE.out.symm, hb0⟩
  · have d1 : (r.code == s.code) = false := by simpa using h1
    have HE := hide (show sameCp c d = false by rw [HE.out]; simp [h1])
    clear h1 hcI gR gS
    go_enter Try.func35, Try.ntmps35
    go_wp2
    go_ret
    exact ⟨ret_bool HE.out.symm, hb0⟩
end Go.Proofs.Ytncdombfhcfobaa
/- Places that an instance comes to; contract: the reference's SamePlaced. -/
namespace Go.Proofs.Ytncdombfhcfobaa
open Go.RowKit
theorem neqPl (w : World) (a p b q : Int) : (binOp .neq 34 (.agg #[.int .i64 a, .int .i64 p]) (.agg #[.int .i64 b, .int .i64 q])).run Try.prog w = .ok (.bool (!decide (a = b ∧ p = q))) w := by
  simp only [binOp]
  have := eqPl w a p b q
  simp [Op.equal, Op.maxDepth] at this ⊢
  rw [this]
  by_cases h1 : a = b <;> by_cases h2 : p = q <;> simp [h1, h2]
/-- a place that an instance comes to -/
structure Pl where
  path : List Int
  x : Int
  y : Int
  text : ByteArray
deriving DecidableEq
theorem Pl.ext_iff' (a b : Pl) : a = b ↔ (a.path = b.path ∧ (a.x = b.x ∧ a.y = b.y) ∧ a.text = b.text) := by
  cases a; cases b; simp [and_assoc]
/-- what the rows of memory hold, as places -/
def Pls (w : World) (rows : List PR) (ps : List Pl) : Prop :=
  rows.length = ps.length ∧ ∀ (k : Nat) (h : k < rows.length) (h' : k < ps.length), (rows[k].x = ps[k].x ∧ rows[k].y = ps[k].y ∧ rows[k].text = ps[k].text) ∧ rows[k].n ≤ rows[k].c ∧ rows[k].c ≤ 9223372036854775807 ∧ SlR w w.heap.size 1 rows[k].a rows[k].n (ps[k].path.flatMap cN)
theorem Pls.to {w w' : World} {rows : List PR} {ps : List Pl} (h : Pls w rows ps) (hb : Below w.heap.size w w') : Pls w' rows ps :=
  ⟨h.1, fun k h1 h2 => ⟨(h.2 k h1 h2).1, (h.2 k h1 h2).2.1, (h.2 k h1 h2).2.2.1, (h.2 k h1 h2).2.2.2.to' hb⟩⟩
theorem SlR.lenP {w : World} {B n : Nat} {A : Option Addr} {l : List PR} (h : SlR w B 4 A n (l.flatMap cP)) : l.length = n := by
  have := h.1
  rw [flat_len cP 4 (fun _ => rfl)] at this
  omega
theorem SlR.atP {w : World} {B n : Nat} {A : Option Addr} {l : List PR} {wr : World} (h : SlR w B 4 A n (l.flatMap cP)) (hb : Below B w wr) {k : Nat} (hk : k < l.length) :
    ∃ b off, A = some ⟨b, off, none⟩ ∧ b < B ∧ wr.cell? ⟨b, off + k * 4, none⟩ = some (.slice l[k].a l[k].n l[k].c) ∧ wr.cell? ⟨b, off + k * 4 + 1, none⟩ = some (.int .i64 l[k].x) ∧ wr.cell? ⟨b, off + k * 4 + 2, none⟩ = some (.int .i64 l[k].y) ∧
      wr.cell? ⟨b, off + k * 4 + 3, none⟩ = some (.string l[k].text) := by
  obtain ⟨b, off, e, hbb, hc⟩ := h.2 (by have := h.lenP; omega)
  have g := flat_get cP 4 (fun _ => rfl) l k hk
  refine ⟨b, off, e, hbb, ?_, ?_, ?_, ?_⟩
  · exact (hb.cell (p := ⟨b, _, none⟩) hbb).trans (hc (k * 4) _ (g 0 (by omega)))
  · exact (hb.cell (p := ⟨b, _, none⟩) hbb).trans (hc (k * 4 + 1) _ (by simpa [cP] using g 1 (by omega)))
  · exact (hb.cell (p := ⟨b, _, none⟩) hbb).trans (hc (k * 4 + 2) _ (by simpa [cP] using g 2 (by omega)))
  · exact (hb.cell (p := ⟨b, _, none⟩) hbb).trans (hc (k * 4 + 3) _ (by simpa [cP] using g 3 (by omega)))
theorem SlR.bwP {w0 : World} {b off n k : Nat} {l : List PR} (h : SlR w0 w0.heap.size 4 (some ⟨b, off, none⟩) n (l.flatMap cP)) (hk : k < l.length) :
    (∀ x : BW w0, x.val.cell? ⟨b, off + k * 4, none⟩ = some (.slice l[k].a l[k].n l[k].c)) ∧ (∀ x : BW w0, x.val.cell? ⟨b, off + k * 4 + 1, none⟩ = some (.int .i64 l[k].x)) ∧ (∀ x : BW w0, x.val.cell? ⟨b, off + k * 4 + 2, none⟩ = some (.int .i64 l[k].y)) ∧ (∀ x : BW w0, x.val.cell? ⟨b, off + k * 4 + 3, none⟩ = some (.string l[k].text)) := by
  have key := fun x : BW w0 => h.atP x.ok hk
  refine ⟨fun x => ?_, fun x => ?_, fun x => ?_, fun x => ?_⟩ <;> (obtain ⟨b', off', e, _, h0, h1, h2, h3⟩ := key x; cases e; assumption)
theorem c_rIntsv {l k : List Int} {v : Bool} (h : decide (l = k) = v) (A : Option Addr) (n c : Nat) (B : Option Addr) (m d : Nat) (w : World) (hn : n ≤ 9223372036854775807) (hm : m ≤ 9223372036854775807) (hr : SlR w w.heap.size 1 A n (l.flatMap cN)) (hs : SlR w w.heap.size 1 B m (k.flatMap cN)) :
    Calls Try.prog 14 #[.slice A n c, .slice B m d] w fun e w' => e = .returned (.bool v) ∧ Below w.heap.size w w' := h ▸ c_rInts A n c l B m d k w hn hm hr hs
set_option maxRecDepth 100000 in
set_option maxHeartbeats 2000000 in
theorem c_rSamePlaced (A : Option Addr) (n c : Nat) (l : List PR) (ps : List Pl) (B : Option Addr) (m d : Nat) (k : List PR) (qs : List Pl) (w : World) (hn : n ≤ 9223372036854775807) (hm : m ≤ 9223372036854775807) (hr : SlR w w.heap.size 4 A n (l.flatMap cP)) (hs : SlR w w.heap.size 4 B m (k.flatMap cP)) (hP : Pls w l ps) (hQ : Pls w k qs) :
    Calls Try.prog 26 #[.slice A n c, .slice B m d] w fun e w' => e = .returned (.bool (decide (ps = qs))) ∧ Below w.heap.size w w' := by
  have hl := hr.lenP
  have hk := hs.lenP
  have hlp := hP.1
  have hkq := hQ.1
  by_cases hlen : n = m
  · subst hlen
    have hb0 : ((n : Int) != (n : Int)) = false := by simp
    have HL := hide (And.intro (And.intro hl hlp) (And.intro hk hkq))
    clear hlp hkq
    go_enter Try.func26, Try.ntmps26
    go_wp2
    go_loopw [5] (fun i wr => ∃ j : Nat, j ≤ n ∧ i = .int .i64 j ∧ ps.take j = qs.take j ∧ Below w.heap.size w wr) (fun i _ => n - (intOf i).toNat)
    case atStart => exact ⟨0, Nat.zero_le _, rfl, rfl, Below.refl _ _⟩
    case round =>
      obtain ⟨j, hj, rfl, htk, hb⟩ := hrel
      by_cases hlt : j < n
      · have h1 : j < l.length := by omega
        have h2 : j < k.length := by omega
        have h3 : j < ps.length := by have := HL.out; omega
        have h4 : j < qs.length := by have := HL.out; omega
        have hr' := hr.to' hb
        have hs' := hs.to' hb
        have hP' := (hP.to hb).2 j h1 h3
        have hQ' := (hQ.to hb).2 j h2 h4
        obtain ⟨b, off, rfl, hbb, -⟩ := hr'.atP (Below.refl _ _) h1
        obtain ⟨b', off', rfl, hbb', -⟩ := hs'.atP (Below.refl _ _) h2
        obtain ⟨x0, x1, x2, x3⟩ := hr'.bwP h1
        obtain ⟨y0, y1, y2, y3⟩ := hs'.bwP h2
        have H := hide (And.intro htk (And.intro (List.take_succ_eq_append_getElem h3) (List.take_succ_eq_append_getElem h4)))
        have HE := hide (fun h : ps = qs => (by subst h; rfl : ps[j] = qs[j]'h4))
        have hji : (j : Int) < (n : Int) := by omega
        clear hr hs htk hl hk hr' hs' hP hQ
        generalize l[j] = r at *
        generalize k[j] = s at *
        generalize ps[j] = p at *
        generalize qs[j] = q at *
        obtain ⟨⟨e1, e2, e3⟩, en, ec, er⟩ := hP'
        obtain ⟨⟨f1, f2, f3⟩, fn, fc, fr⟩ := hQ'
        have HV := hide (show (p = q) ↔ (p.path = q.path ∧ (r.x = s.x ∧ r.y = s.y) ∧ r.text = s.text) from by rw [Pl.ext_iff', e1, e2, e3, f1, f2, f3])
        have hn1 : r.n ≤ 9223372036854775807 := by omega
        have hn2 : s.n ≤ 9223372036854775807 := by omega
        clear e1 e2 e3 f1 f2 f3
        have ER := hide (And.intro er fr)
        clear er fr
        by_cases c1 : r.x = s.x ∧ r.y = s.y
        · have q1 : ∀ w, (binOp .neq 34 (.agg #[.int .i64 r.x, .int .i64 r.y]) (.agg #[.int .i64 s.x, .int .i64 s.y])).run Try.prog w = .ok (.bool false) w := fun w => by rw [neqPl]; simp [c1]
          by_cases c2 : r.text = s.text
          · have q2 : (r.text.toList == s.text.toList) = true := by simp [c2]
            by_cases c3 : p.path = q.path
            · have D : Hid (decide (p.path = q.path) = true) := hide (by simpa using c3)
              have EQ := hide (HV.out.2 ⟨c3, c1, c2⟩)
              clear c1 c2 c3
              go_wp2_with fail
              refine wp_region_bw wr (Below.refl _ _) (by kernel_rfl) (by kernel_rfl) ?_
              repeat (go_big_quiet_step ((go_at_call 14; exact bw_call (c_rIntsv D.out _ _ _ _ _ _ _ hn1 hn2 (ER.out.1.to' (BW.ok _)) (ER.out.2.to' (BW.ok _))))))
              refine wpQuiet_nil ?_
              intro w5 hb5
              go_wp2_with fail
              go_roundw
              case rel =>
                obtain ⟨h1, h2, h3⟩ := H.out
                exact ⟨j + 1, by omega, by go_num, by rw [h2, h3, h1, EQ.out], bthen hb hb5⟩
              case measure => simp [intOf]; omega
            · have D : Hid (decide (p.path = q.path) = false) := hide (by simpa using c3)
              have NE := hide (fun h => c3 (HV.out.1 h).1)
              clear c1 c2 c3
              go_wp2_with fail
              refine wp_region_bw wr (Below.refl _ _) (by kernel_rfl) (by kernel_rfl) ?_
              repeat (go_big_quiet_step ((go_at_call 14; exact bw_call (c_rIntsv D.out _ _ _ _ _ _ _ hn1 hn2 (ER.out.1.to' (BW.ok _)) (ER.out.2.to' (BW.ok _))))))
              refine wpQuiet_nil ?_
              intro w5 hb5
              go_wp2_with fail
              go_ret
              exact ⟨ret_bool (by rw [eq_comm, decide_eq_false_iff_not]; exact fun h => NE.out (HE.out h)), bthen hb hb5⟩
          · have q2 : (r.text.toList == s.text.toList) = false := by rw [beq_eq_false_iff_ne]; exact fun h => c2 ((text_iff _ _).1 h)
            have NE := hide (fun h => c2 (HV.out.1 h).2.2)
            clear c1 c2
            go_wp2_with fail
            refine wp_region_bw wr (Below.refl _ _) (by kernel_rfl) (by kernel_rfl) ?_
            repeat (go_big_quiet_step ((go_at_call 14; exact bw_call (c_rIntsv D.out _ _ _ _ _ _ _ hn1 hn2 (ER.out.1.to' (BW.ok _)) (ER.out.2.to' (BW.ok _))))))
            refine wpQuiet_nil ?_
            intro w5 hb5
            go_wp2_with fail
            go_ret
            exact ⟨ret_bool (by rw [eq_comm, decide_eq_false_iff_not]; exact fun h => NE.out (HE.out h)), bthen hb hb5⟩
        · have q1 : ∀ w, (binOp .neq 34 (.agg #[.int .i64 r.x, .int .i64 r.y]) (.agg #[.int .i64 s.x, .int .i64 s.y])).run Try.prog w = .ok (.bool true) w := fun w => by rw [neqPl]; simp [c1]
          have NE := hide (fun h => c1 (HV.out.1 h).2.1)
          clear c1
          go_wp2_with fail
          refine wp_region_bw wr (Below.refl _ _) (by kernel_rfl) (by kernel_rfl) ?_
          repeat (go_big_quiet_step ((go_at_call 14; exact bw_call (c_rIntsv D.out _ _ _ _ _ _ _ hn1 hn2 (ER.out.1.to' (BW.ok _)) (ER.out.2.to' (BW.ok _))))))
          refine wpQuiet_nil ?_
          intro w5 hb5
          go_wp2_with fail
          go_ret
          exact ⟨ret_bool (by rw [eq_comm, decide_eq_false_iff_not]; exact fun h => NE.out (HE.out h)), bthen hb hb5⟩
      · have H := hide htk
        clear htk hr hs hl hk hP hQ
        go_wp2
        go_ret
        have h := H.out
        obtain ⟨⟨hl, hlp⟩, hk, hkq⟩ := HL.out
        rw [List.take_of_length_le (by omega), List.take_of_length_le (by omega)] at h
        exact ⟨ret_bool (by rw [decide_eq_true h]), hb⟩
  · have hb0 : ((n : Int) != (m : Int)) = true := by simp; omega
    have HL := hide (And.intro (And.intro hl hlp) (And.intro (And.intro hk hkq) hlen))
    clear hl hk hlp hkq hlen hr hs hP hQ
    go_enter Try.func26, Try.ntmps26
    go_wp2
    go_ret
    exact ⟨ret_bool (by obtain ⟨⟨hl, hlp⟩, ⟨hk, hkq⟩, hne⟩ := HL.out; rw [eq_comm, decide_eq_false_iff_not]; rintro rfl; omega), Below.refl _ _⟩
end Go.Proofs.Ytncdombfhcfobaa
