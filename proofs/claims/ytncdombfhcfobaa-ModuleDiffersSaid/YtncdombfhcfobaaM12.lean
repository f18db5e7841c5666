/- Contracts: byID, sorted. -/
import Derived.Test.YtncdombfhcfobaaM9
namespace Go.Proofs.Ytncdombfhcfobaa
open Go.RowKit
theorem own_blk' {W : World} {b : Nat} {e : TypeId} {k n : Nat} {v : Value} {xs : List Value} (h : W.ownsRow b e k v n xs) (hn : 0 < n) : ∃ g cap cur, v = .slice (some ⟨g, 0, none⟩) n cap ∧ n ≤ cap ∧ cap ≤ maxLen ∧ b ≤ g ∧ Blk W g e cur ∧ cur.take (n * k) = xs := by
  rcases h.2 with ⟨_, h1⟩ | ⟨g, cap, cur, h1, h2, h3, h4, h5, _, h7⟩
  · omega
  · exact ⟨g, cap, cur.toList, h1, h4, h5, h2, by unfold Blk; rw [h3], h7⟩
theorem Blk.slr {w : World} {g : Nat} {t : TypeId} {cs : List Value} {k n : Nat} (h : Blk w g t cs) (hl : cs.length = n * k) : SlR w w.heap.size k (some ⟨g, 0, none⟩) n cs :=
  ⟨hl, fun _ => ⟨g, 0, rfl, h.lt, fun j u hu => by rw [Nat.zero_add, h.cell]; exact hu⟩⟩
theorem Try.infoItem : (Try.prog.info? 36).map (fun i => (i.zero, i.size, i.bytes)) = some (some (.agg #[.int .i64 0, .int .i64 0, .int .i64 0, .int .i64 0, .string ⟨#[]⟩, .int .i64 0]), 6, 56) := by kernel_rfl
theorem Try.infoInt : (Try.prog.info? 3).map (fun i => (i.zero, i.size, i.bytes)) = some (some (.int .i64 0), 1, 8) := by kernel_rfl
theorem Try.infoMod : (Try.prog.info? 27).map (fun i => (i.zero, i.size, i.bytes)) = some (some (.agg #[.int .i64 0, .slice none 0 0]), 2, 32) := by kernel_rfl
abbrev zV : Value := .agg #[.int .i64 0, .int .i64 0, .int .i64 0, .int .i64 0, .string ⟨#[]⟩, .int .i64 0]
theorem zvItem (w : World) : (zeroValue 36).run Try.prog w = .ok zV w := Try.zeroValue36 w
/-- an item as an entry of a map by numbers -/
def kvI (x : It) : Int × Value := (x.id, itV x)
def unI (p : Int × Value) : It :=
  match p.2 with
  | .agg xs => match xs.toList with
    | [.int _ a, .int _ b, .int _ c, .int _ d, .string s, .int _ e] => ⟨a, b, c, d, s, e⟩
    | _ => zIt
  | _ => zIt
theorem unI_kvI (x : It) : unI (kvI x) = x := rfl
theorem perm_un {F : List It} {p : Int × Value} {F' : List (Int × Value)} (h : (F.map kvI).Perm (p :: F')) : ∃ x Fi, p = kvI x ∧ F' = Fi.map kvI ∧ F.Perm (x :: Fi) := by
  have hm : ∀ q ∈ p :: F', kvI (unI q) = q := fun q hq => by
    have := h.symm.subset hq
    obtain ⟨x, _, rfl⟩ := List.mem_map.1 this
    rw [unI_kvI]
  refine ⟨unI p, F'.map unI, (hm p (by simp)).symm, ?_, ?_⟩
  · rw [List.map_map]
    conv => lhs; rw [← List.map_id F']
    exact List.map_congr_left fun q hq => (hm q (List.mem_cons_of_mem _ hq)).symm
  · have h2 := h.map unI
    rw [List.map_map] at h2
    have e : F.map (unI ∘ kvI) = F := by
      have : (unI ∘ kvI) = id := by funext x; exact unI_kvI x
      rw [this, List.map_id]
    rw [e] at h2
    exact h2
def putI (x : It) : List It → List It
  | [] => [x]
  | y :: l => if y.id = x.id then x :: l else y :: putI x l
theorem putI_kv (x : It) : ∀ l : List It, (putI x l).map kvI = putL x.id (itV x) (l.map kvI)
  | [] => rfl
  | y :: l => by
    have ih := putI_kv x l
    by_cases h : y.id = x.id
    · simp [putI, putL, kvI, h]
    · simp only [putI, h, if_false, List.map_cons, ih, putL, kvI]
def byL (l : List It) : List It := l.foldl (fun ls x => putI x ls) []
theorem byL_snoc (l : List It) (k : Nat) (hk : k < l.length) : byL (l.take (k + 1)) = putI l[k] (byL (l.take k)) := by
  unfold byL
  rw [List.take_succ_eq_append_getElem hk, List.foldl_append]
  rfl
theorem c_byID (A : Option Addr) (n c : Nat) (l : List It) (w : World) (hn : n ≤ 9223372036854775807) (hr : SlR w w.heap.size 6 A n (l.flatMap cI)) :
    Calls Try.prog 37 #[.slice A n c] w fun e w' => ∃ b, e = .returned (.map (some b)) ∧ w.heap.size ≤ b ∧ IM w' b ((byL l).map kvI) ∧ Below w.heap.size w w' := by
  have hl := hr.lenI
  have hmm := @run_makeMap Try.prog
  go_enter Try.func37, Try.ntmps37
  go_wp2
  go_loopw [9] (fun i wr => ∃ k : Nat, k ≤ n ∧ i = .int .i64 k ∧ IM wr w.heap.size ((byL (l.take k)).map kvI) ∧ Below w.heap.size w wr) (fun i _ => n - (intOf i).toNat)
  case atStart => exact ⟨0, Nat.zero_le _, rfl, IM.new w, balloc (Below.refl _ _) _⟩
  case round =>
    obtain ⟨k, hk, rfl, him, hb⟩ := hrel
    by_cases hlt : k < n
    · have hkl : k < l.length := by omega
      obtain ⟨b, off, rfl, hbb, hx0, hx1, hx2, hx3, hx4, hx5⟩ := hr.atI hb hkl
      have H := hide (byL_snoc l k hkl)
      have hji : (k : Int) < (n : Int) := by omega
      clear hr hmm hl
      generalize l[k] = s at *
      go_wp2_with (at_mapUpdate; refine wpList_mapUpdate_im rfl _ _ _ 82 (Or.inl rfl) 3 36 Try.underlying82 Try.underlying3 rfl (him.alloc _) _ rfl _ rfl ?_; intro w1 him1 hg1 hs1)
      go_roundw
      case rel =>
        exact ⟨k + 1, by omega, by go_num, by rw [H.out, putI_kv]; exact him1, bgrown (balloc hb _) hg1 (fun j e => by cases e; exact Nat.le_refl _)⟩
      case measure => simp [intOf]; omega
    · obtain rfl : k = n := by omega
      rw [← hl, List.take_length] at him
      have HL := hide hl
      clear hl
      go_wp2
      go_ret
      exact ⟨_, rfl, Nat.le_refl _, him, hb⟩
end Go.Proofs.Ytncdombfhcfobaa
/- Contracts: sorted, made. -/
namespace Go.Proofs.Ytncdombfhcfobaa
open Go.RowKit
theorem SortOf.uniq {l l' s s' : List It} (hn : (l.map (·.id)).Nodup) (hp : l.Perm l') (h : SortOf l s) (h' : SortOf l' s') : s = s' := by
  have h1 : s.Perm s' := h.1.trans (hp.trans h'.1.symm)
  have hn' : (s.map (·.id)).Nodup := (h.1.map _).nodup_iff.2 hn
  refine List.Perm.eq_of_pairwise (le := fun x y => ¬ y.id < x.id) (fun a b ha hb hab hba => ?_) h.2 h'.2 h1
  have e : a.id = b.id := by omega
  obtain ⟨i, hi, rfl⟩ := List.mem_iff_getElem.1 ha
  obtain ⟨j, hj, rfl⟩ := List.mem_iff_getElem.1 (h1.symm.subset hb)
  rcases Nat.lt_trichotomy i j with h3 | h3 | h3
  · have := (List.pairwise_iff_getElem.1 hn') i j (by simpa using hi) (by simpa using hj) h3
    exact absurd (by simpa using e) this
  · subst h3; rfl
  · have := (List.pairwise_iff_getElem.1 hn') j i (by simpa using hj) (by simpa using hi) h3
    exact absurd (by simpa using e.symm) this
/-- one round of sorted's loop -/
def SoInv (w : World) (r b : Nat) (ls : List It) (N : Nat) (v : Value) (wr : World) : Prop :=
  ∃ P F : List It, N = F.length ∧ IRg wr r b (ls.map kvI) (F.map kvI) ∧ ls.Perm (P ++ F) ∧ wr.ownsRow w.heap.size 36 6 v P.length (P.flatMap cI) ∧ Below w.heap.size w wr ∧ w.heap.size ≤ r
theorem own_ne {wr : World} {b n base : Nat} {ls F : List (Int × Value)} {r : Nat} {v : Value} {xs : List Value} (h : wr.ownsRow base 36 6 v n xs) (hr : IRg wr r b ls F) : v.ownBlock = none ∨ v.ownBlock ≠ some r := by
  rcases h.2 with ⟨rfl, _⟩ | ⟨g, cap, cur, rfl, _, hg, _⟩
  · exact .inl rfl
  · refine .inr fun e => ?_
    obtain ⟨es, clock, seen, c0, hr, _⟩ := hr
    simp only [Value.ownBlock, Option.some.injEq] at e
    subst e
    rw [hg] at hr
    cases hr
theorem own_apart {wr : World} {b n base : Nat} {ls F : List (Int × Value)} {r : Nat} {v : Value} {xs : List Value} {t : TypeId} {sz : Nat} (h : wr.ownsRow base t sz v n xs) (hr : IRg wr r b ls F) : ∀ k, v.ownBlock = some k → base ≤ k ∧ k ≠ r ∧ k ≠ b := by
  intro k hk
  rcases h.2 with ⟨rfl, _⟩ | ⟨g, cap, cur, rfl, hb, hg, _⟩
  · cases hk
  · simp only [Value.ownBlock, Option.some.injEq] at hk
    subst hk
    obtain ⟨es, clock, seen, c0, hr, _, hm, _⟩ := hr
    exact ⟨hb, (fun e => by subst e; rw [hg] at hr; cases hr), (fun e => by subst e; rw [hg] at hm; cases hm)⟩
theorem IRg.grown {w w' : World} {r b : Nat} {L F : List (Int × Value)} {row : Option Nat} (h : IRg w r b L F) (hg : w.grownBy w' row) (hr : ∀ k, row = some k → k ≠ r ∧ k ≠ b) : IRg w' r b L F :=
  h.same (hg.block r h.lt.1 (fun e => (hr r e.symm).1 rfl)) (hg.block b h.lt.2 (fun e => (hr b e.symm).2 rfl))
set_option maxRecDepth 100000 in
set_option maxHeartbeats 1000000 in
theorem c_sorted (b : Nat) (ls : List It) (w : World) (him : IM w b (ls.map kvI)) (hlen : ls.length ≤ 1000000) :
    Calls Try.prog 38 #[.map (some b)] w fun e w' => ∃ v s, e = .returned v ∧ SortOf ls s ∧ w'.ownsRow w.heap.size 36 6 v ls.length (s.flatMap cI) ∧ Below w.heap.size w w' := by
  obtain ⟨i0, hi, hz0, hz1, hz2⟩ := info_parts Try.infoItem
  have hbl := him.lt
  go_enter Try.func38, Try.ntmps38
  go_wp2_with (refine wpList_range_im rfl _ 82 rfl 3 36 Try.underlying82 rfl him ?_; intro w4 hrg hg4 hs4)
  go_frame
  go_loopg [3] ls.length (fun N v wr => SoInv w w.heap.size b ls N v wr)
  case atStart => exact ⟨[], ls, rfl, hrg, .refl _, World.ownsRow_nil _ _ _ _, bgrown (Below.refl _ _) hg4 (fun k e => by cases e), Nat.le_refl _⟩
  case round =>
    obtain ⟨P, F, rfl, hrg', hperm, hown, hb, hrl⟩ := hrel
    have HP := hide (And.intro hperm (And.intro hown (And.intro hb hrg')))
    have hpl := hperm.length_eq
    rw [List.length_append] at hpl
    have hP6 : P.length ≤ 1000000 := by omega
    clear hrg hg4 hs4 him hperm hb
    go_wp2_with (refine wpList_next_im rfl _ rfl rfl hrg' ?_ ?_)
    · intro hF
      have hF' : F = [] := by simpa using hF
      subst hF'
      obtain ⟨hperm, _, hb, _⟩ := HP.out
      rw [List.append_nil] at hperm
      have hpe := hperm.length_eq
      have HB := hide (And.intro hperm (And.intro hb hpe))
      clear hperm hb hpe hF hrg' hpl
      rcases Nat.eq_zero_or_pos P.length with h0 | h0
      · obtain ⟨A', cv, rfl, _, _, _⟩ := SlR.of_own hown
        rw [h0] at hown
        have HO := hide (And.intro hown h0)
        rw [h0]
        clear hown h0
        go_wp2_with fail
        refine (c_sortNone A' cv _ _).mono ?_
        rintro e w5 ⟨rfl, rfl⟩
        go_wp2
        go_ret
        obtain ⟨hperm, hb, hpe⟩ := HB.out
        obtain ⟨hown, h0⟩ := HO.out
        have hP : P = [] := List.eq_nil_of_length_eq_zero h0
        subst hP
        have hls : ls = [] := List.eq_nil_of_length_eq_zero (by simpa using hpe)
        subst hls
        exact ⟨_, [], rfl, ⟨.refl _, .nil⟩, hown, hb⟩
      · obtain ⟨g, cap, cur, rfl, _, _, _, _, _⟩ := own_blk' hown h0
        have HO := hide hown
        clear hown
        go_wp2_with fail
        refine (c_sortItem P w.heap.size g cap _ (by omega) HO.out).mono ?_
        rintro e w5 ⟨rfl, s, hs, hown2, hb2⟩
        have HS := hide (And.intro hs (And.intro hown2 hb2))
        clear hs hown2 hb2
        go_wp2
        go_ret
        obtain ⟨hs, hown2, hb2⟩ := HS.out
        obtain ⟨hperm, hb, hpe⟩ := HB.out
        rw [hpe]
        exact ⟨_, s, rfl, ⟨hs.1.trans hperm.symm, hs.2⟩, hown2, hb.trans hb2⟩
    · intro q v F' w5 y hym hye hperm' hrg5 hg5 hs5 hent
      obtain ⟨x, Fi, hx, rfl, hpf⟩ := perm_un hperm'
      simp only [kvI, Prod.mk.injEq] at hx
      obtain ⟨rfl, rfl⟩ := hx
      obtain ⟨hperm, _, hb, hrg1⟩ := HP.out
      have hown5 := hown.kept hg5 (own_ne hown hrg1)
      have hb5 := bgrown hb hg5 (fun k e => by cases e; exact Nat.le_refl _)
      have hgl5 := hb5.size
      have HQ := hide (And.intro hperm (And.intro hpf (And.intro hrg5 (And.intro hb5 hpl))))
      have gA := (Blk.new (w5.alloc (.cells #[.int .i64 x.id, .int .i64 x.kind, .int .i64 x.x, .int .i64 x.y, .string x.text, .int .i64 x.mod] 36)) 36 (cI x)).slr (k := 6) (n := 1) rfl
      rw [show (w5.alloc (.cells #[.int .i64 x.id, .int .i64 x.kind, .int .i64 x.x, .int .i64 x.y, .string x.text, .int .i64 x.mod] 36)).heap.size = w5.heap.size + 1 from by simp] at gA
      clear hperm hpf hrg5 hb5 hrg1 hb hg5 hown hym hye hperm' hrg' hs5
      go_wp2_with (at_builtin; refine wpList_append_sl (size := 6) rfl _ _ 24 rfl w.heap.size 36 i0 zV 56 Try.underlying24 hi hz0 hz1 hz2 rfl (by decide) _ P.length (P.flatMap cI) rfl ((hown5.alloc _).alloc _) 1 1 (cI x) rfl gA (Below.refl _ _) (fun u hu => oneI [x] u (by simpa using hu)) (by unfold maxLen; omega) (by omega) (by simp; omega) ?_; intro v6 w6 hown6 hgrow6 hor6)
      rw [← flatI_snoc] at hown6
      obtain ⟨hperm, hpf, hrg5, hb5, hpl⟩ := HQ.out
      go_roundg Fi.length
      case measure => have := hpf.length_eq; simp at this; omega
      case rel =>
        refine ⟨P ++ [x], Fi, rfl, ?_, ?_, by rw [List.length_append]; exact hown6, ?_, Nat.le_refl _⟩
        · exact ((hrg5.alloc _).alloc _).grown hgrow6 (fun k e => ((own_apart hown5 hrg5) k e).2)
        · rw [List.append_assoc]; exact hperm.trans (List.Perm.append_left P hpf)
        · exact bgrown (balloc (balloc hb5 _) _) hgrow6 (fun k e => ((own_apart hown5 hrg5) k e).1)
end Go.Proofs.Ytncdombfhcfobaa
/- Contract: made. -/
namespace Go.Proofs.Ytncdombfhcfobaa
open Go.RowKit
def delI (n : Int) : List It → List It
  | [] => []
  | y :: l => if y.id = n then l else y :: delI n l
theorem delI_kv (n : Int) : ∀ l : List It, (delI n l).map kvI = delL n (l.map kvI)
  | [] => rfl
  | y :: l => by
    have ih := delI_kv n l
    by_cases h : y.id = n
    · simp [delI, delL, kvI, h]
    · simp only [delI, h, if_false, List.map_cons, ih, delL, kvI]
theorem delI_len (n : Int) : ∀ l : List It, (delI n l).length ≤ l.length
  | [] => by simp [delI]
  | y :: l => by
    have := delI_len n l
    unfold delI
    split
    · simp
    · simp only [List.length_cons]; omega
theorem putI_len (x : It) : ∀ l : List It, (putI x l).length ≤ l.length + 1
  | [] => by simp [putI]
  | y :: l => by
    have := putI_len x l
    unfold putI
    split
    · simp
    · simp only [List.length_cons]; omega
def putAll (ls xs : List It) : List It := xs.foldl (fun ls x => putI x ls) ls
def delAll (ls : List It) (ns : List Int) : List It := ns.foldl (fun ls n => delI n ls) ls
theorem putAll_len : ∀ (xs ls : List It), (putAll ls xs).length ≤ ls.length + xs.length
  | [], ls => by simp [putAll]
  | x :: xs, ls => by
    have h1 := putAll_len xs (putI x ls)
    have h2 := putI_len x ls
    simp only [putAll, List.foldl_cons, List.length_cons] at h1 ⊢
    omega
theorem delAll_len : ∀ (ns : List Int) (ls : List It), (delAll ls ns).length ≤ ls.length
  | [], ls => by simp [delAll]
  | n :: ns, ls => by
    have h1 := delAll_len ns (delI n ls)
    have h2 := delI_len n ls
    simp only [delAll, List.foldl_cons] at h1 ⊢
    omega
theorem putAll_snoc (ls xs : List It) (k : Nat) (hk : k < xs.length) : putAll ls (xs.take (k + 1)) = putI xs[k] (putAll ls (xs.take k)) := by
  unfold putAll
  rw [List.take_succ_eq_append_getElem hk, List.foldl_append]
  rfl
theorem delAll_snoc (ls : List It) (ns : List Int) (k : Nat) (hk : k < ns.length) : delAll ls (ns.take (k + 1)) = delI ns[k] (delAll ls (ns.take k)) := by
  unfold delAll
  rw [List.take_succ_eq_append_getElem hk, List.foldl_append]
  rfl
theorem own_base {W : World} {b b' : Nat} {e : TypeId} {k n : Nat} {v : Value} {xs : List Value} (h : W.ownsRow b e k v n xs) (hb : b' ≤ b) : W.ownsRow b' e k v n xs := by
  refine ⟨h.1, ?_⟩
  rcases h.2 with h | ⟨g, c', cur, q1, q2, q3⟩
  · exact .inl h
  · exact .inr ⟨g, c', cur, q1, by omega, q3⟩
def itemsOf (ms : List Mo) (n : Int) : List It := match findM ms n with
  | some m => m.items
  | none => []
theorem Mods.itemsOf {w : World} {rows : List MR} {ms : List Mo} (h : Mods w rows ms) (n : Int) : ∃ (r : MR) (b : Bool), fndV (fndR rows n) = .tuple #[mrV r, .bool b] ∧ b = (findM ms n).isSome ∧ r.n ≤ r.c ∧ r.c ≤ 9223372036854775807 ∧ SlR w w.heap.size 6 r.a r.n ((Go.Proofs.Ytncdombfhcfobaa.itemsOf ms n).flatMap cI) := by
  rcases h.find (n := n) with ⟨h1, h2⟩ | ⟨r, m, h1, h2, _, _, h3, h4, h5⟩
  · refine ⟨⟨0, none, 0, 0⟩, false, by rw [h1]; rfl, by rw [h2]; rfl, Nat.le_refl _, by simp, ?_⟩
    unfold Go.Proofs.Ytncdombfhcfobaa.itemsOf
    rw [h2]
    exact SlR.nil
  · refine ⟨r, true, by rw [h1]; rfl, by rw [h2]; rfl, h3, h4, ?_⟩
    unfold Go.Proofs.Ytncdombfhcfobaa.itemsOf
    rw [h2]
    exact h5
/-- what a map of items holds, of a valid instance -/
def madeM (ms : List Mo) (c : Cp) : List It := putAll (delAll (byL (itemsOf ms c.mod)) c.gone) c.changes
set_option maxRecDepth 100000 in
set_option maxHeartbeats 2000000 in
theorem c_made (A : Option Addr) (N cc : Nat) (rows : List MR) (ms : List Mo) (r : CR) (c : Cp) (w : World) (hN : N ≤ 9223372036854775807) (hr : SlR w w.heap.size 2 A N (rows.flatMap cM)) (hm : Mods w rows ms) (h : CpR w r c)
    (hlen : (itemsOf ms c.mod).length + c.changes.length ≤ 1000000) :
    Calls Try.prog 40 #[.slice A N cc, crV r] w fun e w' => ∃ v s, e = .returned v ∧ SortOf (madeM ms c) s ∧ w'.ownsRow w.heap.size 36 6 v s.length (s.flatMap cI) ∧ Below w.heap.size w w' := by
  obtain ⟨⟨e1, e2, e3, e4⟩, ⟨hn1, hn2, hrc⟩, ⟨hm1, hm2, hsc⟩⟩ := h
  have hb0 := balloc (Below.refl w.heap.size w) (.cells #[.int .i64 r.code, .int .i64 r.mod, .int .i64 r.x, .int .i64 r.y, .slice r.a r.n r.c, .slice r.a2 r.n2 r.c2] 45)
  have gC := Blk.new w 45 (cC r)
  have hk0 := c_find A N cc rows r.mod _ hN (hr.to' hb0)
  obtain ⟨q, bq, hq1, _, hq2, hq3, hq4⟩ := hm.itemsOf r.mod
  rw [hq1] at hk0
  rw [← e2] at hlen
  have HF := hide (show madeM ms c = putAll (delAll (byL (itemsOf ms r.mod)) c.gone) c.changes by unfold madeM; rw [e2])
  generalize itemsOf ms r.mod = l0 at *
  have hcn := hsc.lenN
  have hcc := hrc.lenI
  clear hr hm hq1 e1 e2 e3 e4
  unfold crV
  go_enter Try.func40, Try.ntmps40
  go_wp2_with fail
  refine hk0.mono ?_
  clear hk0
  rintro e w1 ⟨rfl, hb1⟩
  have hb01 := balloc (bthen hb0 hb1) (.cells #[.int .i64 q.id, .slice q.a q.n q.c] 27)
  have gC1 := (gC.below hb1 gC.lt).alloc (.cells #[.int .i64 q.id, .slice q.a q.n q.c] 27)
  obtain ⟨x0, x1, x2, x3, x4, x5⟩ := gC1.allC
  have hlt1 : w.heap.size < w1.heap.size := (gC.below hb1 gC.lt).lt
  have HG := hide gC1
  clear gC gC1 hb0 hb1
  go_wp2_with fail
  refine (c_byID q.a q.n q.c l0 _ (by omega) (hq4.to' hb01)).mono ?_
  rintro e w2 ⟨b, rfl, hbb, him, hb2⟩
  have gC2 := HG.out.below hb2 HG.out.lt
  obtain ⟨y0, y1, y2, y3, y4, y5⟩ := gC2.allC
  have hg2 := gC2.lt
  have hbl := him.lt
  have hb02 := bthen hb01 hb2
  have hrc2 := hrc.below hb02
  have hsc2 := hsc.below hb02
  have hbw : w.heap.size + 1 ≤ b := by simp at hbb; omega
  have HG2 := hide gC2
  clear x0 x1 x2 x3 x4 x5 HG hq4 hrc hsc hb01 hb2 hbb gC2 hlt1
  go_wp2_with fail
  go_loopw [9, 25] (fun s i wr => ∃ k : Nat, k ≤ r.n2 ∧ i = .int .i64 k ∧ IM wr b ((delAll (byL l0) (c.gone.take k)).map kvI) ∧ Below (w.heap.size + 1) w2 wr) (fun _ i _ => r.n2 - (intOf i).toNat)
  case atStart => exact ⟨0, Nat.zero_le _, rfl, him, Below.refl _ _⟩
  case round =>
    obtain ⟨k, hk, rfl, him', hb⟩ := hrel
    by_cases hlt : k < r.n2
    · have hkl : k < c.gone.length := by omega
      have hbm : Below w.heap.size w2 wr := hb.mono (by omega)
      obtain ⟨b', off, hA, hbb', z0⟩ := hsc2.atN hbm hkl
      have H := hide (delAll_snoc (byL l0) c.gone k hkl)
      have hji : (k : Int) < (r.n2 : Int) := by omega
      rw [hA] at *
      clear hA hsc2 hrc2 HG2 hcn hcc hbm him
      generalize c.gone[k] = s at *
      clear hkl
      go_wp2_with (at_delete; refine wpList_delete_im rfl _ _ 82 3 rfl 36 Try.underlying82 Try.underlying3 rfl him' _ rfl ?_; intro w5 him5 hg5 hs5)
      go_roundw
      case rel => exact ⟨k + 1, by omega, by go_num, by rw [H.out, delI_kv]; exact him5, hb.grown hg5 (by have := hb.size; omega) (fun j e => by cases e; omega)⟩
      case measure => simp [intOf]; omega
    · obtain rfl : k = r.n2 := by omega
      rw [← hcn, List.take_length] at him'
      have hbm : Below w.heap.size w2 wr := hb.mono (by omega)
      have hrc3 := hrc2.below hbm
      obtain ⟨y0, y1, y2, y3, y4, y5⟩ := (HG2.out.below hb (by omega)).allC
      have hbl3 := him'.lt
      have hb03 := hb02.trans hbm
      have hlen2 : (delAll (byL l0) c.gone).length ≤ l0.length := by
        have h1 := delAll_len c.gone (byL l0)
        have h2 := putAll_len l0 []
        simp only [List.length_nil, Nat.zero_add] at h2
        exact Nat.le_trans h1 h2
      generalize delAll (byL l0) c.gone = l1 at *
      clear hrc2 hsc2 him HG2 hb hbm hb02
      obtain ⟨wo, rfl⟩ : ∃ wo : World, wo = wr := ⟨_, rfl⟩
      have HL := hide hcn
      clear hcn
      go_wp2_with fail
      go_loopw [11, 35] (fun s i wr => ∃ k : Nat, k ≤ r.n ∧ i = .int .i64 k ∧ IM wr b ((putAll l1 (c.changes.take k)).map kvI) ∧ Below (w.heap.size + 1) wo wr) (fun _ i _ => r.n - (intOf i).toNat)
      case atStart => exact ⟨0, Nat.zero_le _, rfl, him', Below.refl _ _⟩
      case round =>
        obtain ⟨k, hk, rfl, him6, hb⟩ := hrel
        by_cases hlt : k < r.n
        · have hkl : k < c.changes.length := by omega
          have hbm : Below w.heap.size wo wr := hb.mono (by omega)
          obtain ⟨b', off, hA, hbb', z0, z1, z2, z3, z4, z5⟩ := hrc3.atI hbm hkl
          have H := hide (putAll_snoc l1 c.changes k hkl)
          have hji : (k : Int) < (r.n : Int) := by omega
          rw [hA] at *
          clear hA hrc3 hcc hbm him'
          generalize c.changes[k] = s at *
          clear hkl
          go_wp2_with (at_mapUpdate; refine wpList_mapUpdate_im rfl _ _ _ 82 (Or.inl rfl) 3 36 Try.underlying82 Try.underlying3 rfl (him6.alloc _) _ rfl _ rfl ?_; intro w5 him5 hg5 hs5)
          go_roundw
          case rel => exact ⟨k + 1, by omega, by go_num, by rw [H.out, putI_kv]; exact him5, (hb.alloc (by have := hb.size; omega) _).grown hg5 (by have := hb.size; simp; omega) (fun j e => by cases e; omega)⟩
          case measure => simp [intOf]; omega
        · obtain rfl : k = r.n := by omega
          rw [← hcc, List.take_length] at him6
          have hl4 := putAll_len c.changes l1
          have hk4 := c_sorted b _ _ him6 (by omega)
          have hb04 := hb03.trans (hb.mono (by omega))
          clear hrc3 him' him6 hb hb03
          have HC := hide hcc
          clear hcc
          go_wp2_with fail
          refine hk4.mono ?_
          clear hk4
          rintro e w7 ⟨v, s, rfl, hso, hown, hb7⟩
          have HO := hide (And.intro hso (And.intro hown hb7))
          clear hso hown hb7
          go_wp2
          go_ret
          obtain ⟨hso, hown, hb7⟩ := HO.out
          have hsl := hso.1.length_eq
          refine ⟨v, s, rfl, by rw [HF.out]; exact hso, ?_, bthen hb04 hb7⟩
          rw [hsl]
          exact own_base hown (by have := hb04.size; omega)
end Go.Proofs.Ytncdombfhcfobaa
