/- Contract: made. -/
import Derived.Test.YtncdombfhcfobaaM11
namespace Go.Proofs.Ytncdombfhcfobaa
open Go.RowKit
def delI (n : Int) : List It → List It
  | [] => []
  | y :: l => if y.id = n then l else y :: delI n l
theorem delI_kv (n : Int) : ∀ l : List It, (delI n l).map kvI = delL n (l.map kvI)
  | [] => rfl
  | y :: l => by
    have ih := delI_kv n l
    by_cases h : y.id = n
    · simp [delI, delL, kvI, h]
    · simp only [delI, h, if_false, List.map_cons, ih, delL, kvI]
theorem delI_len (n : Int) : ∀ l : List It, (delI n l).length ≤ l.length
  | [] => by simp [delI]
  | y :: l => by
    have := delI_len n l
    unfold delI
    split
    · simp
    · simp only [List.length_cons]; omega
theorem putI_len (x : It) : ∀ l : List It, (putI x l).length ≤ l.length + 1
  | [] => by simp [putI]
  | y :: l => by
    have := putI_len x l
    unfold putI
    split
    · simp
    · simp only [List.length_cons]; omega
def putAll (ls xs : List It) : List It := xs.foldl (fun ls x => putI x ls) ls
def delAll (ls : List It) (ns : List Int) : List It := ns.foldl (fun ls n => delI n ls) ls
theorem putAll_len : ∀ (xs ls : List It), (putAll ls xs).length ≤ ls.length + xs.length
  | [], ls => by simp [putAll]
  | x :: xs, ls => by
    have h1 := putAll_len xs (putI x ls)
    have h2 := putI_len x ls
    simp only [putAll, List.foldl_cons, List.length_cons] at h1 ⊢
    omega
theorem delAll_len : ∀ (ns : List Int) (ls : List It), (delAll ls ns).length ≤ ls.length
  | [], ls => by simp [delAll]
  | n :: ns, ls => by
    have h1 := delAll_len ns (delI n ls)
    have h2 := delI_len n ls
    simp only [delAll, List.foldl_cons] at h1 ⊢
    omega
theorem putAll_snoc (ls xs : List It) (k : Nat) (hk : k < xs.length) : putAll ls (xs.take (k + 1)) = putI xs[k] (putAll ls (xs.take k)) := by
  unfold putAll
  rw [List.take_succ_eq_append_getElem hk, List.foldl_append]
  rfl
theorem delAll_snoc (ls : List It) (ns : List Int) (k : Nat) (hk : k < ns.length) : delAll ls (ns.take (k + 1)) = delI ns[k] (delAll ls (ns.take k)) := by
  unfold delAll
  rw [List.take_succ_eq_append_getElem hk, List.foldl_append]
  rfl
theorem own_base {W : World} {b b' : Nat} {e : TypeId} {k n : Nat} {v : Value} {xs : List Value} (h : W.ownsRow b e k v n xs) (hb : b' ≤ b) : W.ownsRow b' e k v n xs := by
  refine ⟨h.1, ?_⟩
  rcases h.2 with h | ⟨g, c', cur, q1, q2, q3⟩
  · exact .inl h
  · exact .inr ⟨g, c', cur, q1, by omega, q3⟩
def itemsOf (ms : List Mo) (n : Int) : List It := match findM ms n with
  | some m => m.items
  | none => []
theorem Mods.itemsOf {w : World} {rows : List MR} {ms : List Mo} (h : Mods w rows ms) (n : Int) : ∃ (r : MR) (b : Bool), fndV (fndR rows n) = .tuple #[mrV r, .bool b] ∧ b = (findM ms n).isSome ∧ r.n ≤ r.c ∧ r.c ≤ 9223372036854775807 ∧ SlR w w.heap.size 6 r.a r.n ((Go.Proofs.Ytncdombfhcfobaa.itemsOf ms n).flatMap cI) := by
  rcases h.find (n := n) with ⟨h1, h2⟩ | ⟨r, m, h1, h2, _, _, h3, h4, h5⟩
  · refine ⟨⟨0, none, 0, 0⟩, false, by rw [h1]; rfl, by rw [h2]; rfl, Nat.le_refl _, by simp, ?_⟩
    unfold Go.Proofs.Ytncdombfhcfobaa.itemsOf
    rw [h2]
    exact SlR.nil
  · refine ⟨r, true, by rw [h1]; rfl, by rw [h2]; rfl, h3, h4, ?_⟩
    unfold Go.Proofs.Ytncdombfhcfobaa.itemsOf
    rw [h2]
    exact h5
/-- what a map of items holds, of a valid instance -/
def madeM (ms : List Mo) (c : Cp) : List It := putAll (delAll (byL (itemsOf ms c.mod)) c.gone) c.changes
set_option maxRecDepth 100000 in
set_option maxHeartbeats 2000000 in
theorem c_made (A : Option Addr) (N cc : Nat) (rows : List MR) (ms : List Mo) (r : CR) (c : Cp) (w : World) (hN : N ≤ 9223372036854775807) (hr : SlR w w.heap.size 2 A N (rows.flatMap cM)) (hm : Mods w rows ms) (h : CpR w r c)
    (hlen : (itemsOf ms c.mod).length + c.changes.length ≤ 1000000) :
    Calls Try.prog 40 #[.slice A N cc, crV r] w fun e w' => ∃ v s, e = .returned v ∧ SortOf (madeM ms c) s ∧ w'.ownsRow w.heap.size 36 6 v s.length (s.flatMap cI) ∧ Below w.heap.size w w' := by
  obtain ⟨⟨e1, e2, e3, e4⟩, ⟨hn1, hn2, hrc⟩, ⟨hm1, hm2, hsc⟩⟩ := h
  have hb0 := balloc (Below.refl w.heap.size w) (.cells #[.int .i64 r.code, .int .i64 r.mod, .int .i64 r.x, .int .i64 r.y, .slice r.a r.n r.c, .slice r.a2 r.n2 r.c2] 45)
  have gC := Blk.new w 45 (cC r)
  have hk0 := c_find A N cc rows r.mod _ hN (hr.to' hb0)
  obtain ⟨q, bq, hq1, _, hq2, hq3, hq4⟩ := hm.itemsOf r.mod
  rw [hq1] at hk0
  rw [← e2] at hlen
  have HF := hide (show madeM ms c = putAll (delAll (byL (itemsOf ms r.mod)) c.gone) c.changes by unfold madeM; rw [e2])
  generalize itemsOf ms r.mod = l0 at *
  have hcn := hsc.lenN
  have hcc := hrc.lenI
  clear hr hm hq1 e1 e2 e3 e4
  unfold crV
  go_enter Try.func40, Try.ntmps40
  go_wp2_with fail
  refine hk0.mono ?_
  clear hk0
  rintro e w1 ⟨rfl, hb1⟩
  have hb01 := balloc (bthen hb0 hb1) (.cells #[.int .i64 q.id, .slice q.a q.n q.c] 27)
  have gC1 := (gC.below hb1 gC.lt).alloc (.cells #[.int .i64 q.id, .slice q.a q.n q.c] 27)
  obtain ⟨x0, x1, x2, x3, x4, x5⟩ := gC1.allC
  have hlt1 : w.heap.size < w1.heap.size := (gC.below hb1 gC.lt).lt
  have HG := hide gC1
  clear gC gC1 hb0 hb1
  go_wp2_with fail
  refine (c_byID q.a q.n q.c l0 _ (by omega) (hq4.to' hb01)).mono ?_
  rintro e w2 ⟨b, rfl, hbb, him, hb2⟩
  have gC2 := HG.out.below hb2 HG.out.lt
  obtain ⟨y0, y1, y2, y3, y4, y5⟩ := gC2.allC
  have hg2 := gC2.lt
  have hbl := him.lt
  have hb02 := bthen hb01 hb2
  have hrc2 := hrc.below hb02
  have hsc2 := hsc.below hb02
  have hbw : w.heap.size + 1 ≤ b := by simp at hbb; omega
  have HG2 := hide gC2
  clear x0 x1 x2 x3 x4 x5 HG hq4 hrc hsc hb01 hb2 hbb gC2 hlt1
  go_wp2_with fail
  go_loopw [9, 25] (fun s i wr => ∃ k : Nat, k ≤ r.n2 ∧ i = .int .i64 k ∧ IM wr b ((delAll (byL l0) (c.gone.take k)).map kvI) ∧ Below (w.heap.size + 1) w2 wr) (fun _ i _ => r.n2 - (intOf i).toNat)
  case atStart => exact ⟨0, Nat.zero_le _, rfl, him, Below.refl _ _⟩
  case round =>
    obtain ⟨k, hk, rfl, him', hb⟩ := hrel
    by_cases hlt : k < r.n2
    · have hkl : k < c.gone.length := by omega
      have hbm : Below w.heap.size w2 wr := hb.mono (by omega)
      obtain ⟨b', off, hA, hbb', z0⟩ := hsc2.atN hbm hkl
      have H := hide (delAll_snoc (byL l0) c.gone k hkl)
      have hji : (k : Int) < (r.n2 : Int) := by omega
      rw [hA] at *
      clear hA hsc2 hrc2 HG2 hcn hcc hbm him
      generalize c.gone[k] = s at *
      clear hkl
      go_wp2_with (at_delete; refine wpList_delete_im rfl _ _ 82 3 rfl 36 Try.underlying82 Try.underlying3 rfl him' _ rfl ?_; intro w5 him5 hg5 hs5)
      go_roundw
      case rel => exact ⟨k + 1, by omega, by go_num, by rw [H.out, delI_kv]; exact him5, hb.grown hg5 (by have := hb.size; omega) (fun j e => by cases e; omega)⟩
      case measure => simp [intOf]; omega
    · obtain rfl : k = r.n2 := by omega
      rw [← hcn, List.take_length] at him'
      have hbm : Below w.heap.size w2 wr := hb.mono (by omega)
      have hrc3 := hrc2.below hbm
      obtain ⟨y0, y1, y2, y3, y4, y5⟩ := (HG2.out.below hb (by omega)).allC
      have hbl3 := him'.lt
      have hb03 := hb02.trans hbm
      have hlen2 : (delAll (byL l0) c.gone).length ≤ l0.length := by
        have h1 := delAll_len c.gone (byL l0)
        have h2 := putAll_len l0 []
        simp only [List.length_nil, Nat.zero_add] at h2
        exact Nat.le_trans h1 h2
      generalize delAll (byL l0) c.gone = l1 at *
      clear hrc2 hsc2 him HG2 hb hbm hb02
      obtain ⟨wo, rfl⟩ : ∃ wo : World, wo = wr := ⟨_, rfl⟩
      have HL := hide hcn
      clear hcn
      go_wp2_with fail
      go_loopw [11, 35] (fun s i wr => ∃ k : Nat, k ≤ r.n ∧ i = .int .i64 k ∧ IM wr b ((putAll l1 (c.changes.take k)).map kvI) ∧ Below (w.heap.size + 1) wo wr) (fun _ i _ => r.n - (intOf i).toNat)
      case atStart => exact ⟨0, Nat.zero_le _, rfl, him', Below.refl _ _⟩
      case round =>
        obtain ⟨k, hk, rfl, him6, hb⟩ := hrel
        by_cases hlt : k < r.n
        · have hkl : k < c.changes.length := by omega
          have hbm : Below w.heap.size wo wr := hb.mono (by omega)
          obtain ⟨b', off, hA, hbb', z0, z1, z2, z3, z4, z5⟩ := hrc3.atI hbm hkl
          have H := hide (putAll_snoc l1 c.changes k hkl)
          have hji : (k : Int) < (r.n : Int) := by omega
          rw [hA] at *
          clear hA hrc3 hcc hbm him'
          generalize c.changes[k] = s at *
          clear hkl
          go_wp2_with (at_mapUpdate; refine wpList_mapUpdate_im rfl _ _ _ 82 (Or.inl rfl) 3 36 Try.underlying82 Try.underlying3 rfl (him6.alloc _) _ rfl _ rfl ?_; intro w5 him5 hg5 hs5)
          go_roundw
          case rel => exact ⟨k + 1, by omega, by go_num, by rw [H.out, putI_kv]; exact him5, (hb.alloc (by have := hb.size; omega) _).grown hg5 (by have := hb.size; simp; omega) (fun j e => by cases e; omega)⟩
          case measure => simp [intOf]; omega
        · obtain rfl : k = r.n := by omega
          rw [← hcc, List.take_length] at him6
          have hl4 := putAll_len c.changes l1
          have hk4 := c_sorted b _ _ him6 (by omega)
          have hb04 := hb03.trans (hb.mono (by omega))
          clear hrc3 him' him6 hb hb03
          have HC := hide hcc
          clear hcc
          go_wp2_with fail
          refine hk4.mono ?_
          clear hk4
          rintro e w7 ⟨v, s, rfl, hso, hown, hb7⟩
          have HO := hide (And.intro hso (And.intro hown hb7))
          clear hso hown hb7
          go_wp2
          go_ret
          obtain ⟨hso, hown, hb7⟩ := HO.out
          have hsl := hso.1.length_eq
          refine ⟨v, s, rfl, by rw [HF.out]; exact hso, ?_, bthen hb04 hb7⟩
          rw [hsl]
          exact own_base hown (by have := hb04.size; omega)
end Go.Proofs.Ytncdombfhcfobaa
