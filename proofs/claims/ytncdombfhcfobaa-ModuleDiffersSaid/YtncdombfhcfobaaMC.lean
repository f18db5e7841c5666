/- Contract: what Rebase's closure does: a number is contested if the two lists do not have the same item of it. -/
import Derived.Test.YtncdombfhcfobaaM18
namespace Go.Proofs.Ytncdombfhcfobaa
open Go.RowKit
/-- all blocks but two are as they were -/
structure KeptBut (bc : Nat) (r : Option Nat) (w w' : World) : Prop where
  os : w'.os = w.os
  tape : w'.tape = w.tape
  output : w'.output = w.output
  size : w.heap.size ≤ w'.heap.size
  block : ∀ k, k < w.heap.size → k ≠ bc → some k ≠ r → w'.heap[k]? = w.heap[k]?
theorem KeptBut.of_below {bc : Nat} {r : Option Nat} {w w' : World} (h : Below w.heap.size w w') : KeptBut bc r w w' := ⟨h.os, h.tape, h.output, h.size, fun k hk _ _ => h.block k hk⟩
theorem KeptBut.app {bc : Nat} {r : Option Nat} {w a b : World} (h : Below w.heap.size w a) (hg : a.grownBy b r) (u : Value) : KeptBut bc r w (b.setCell ⟨bc, 0, none⟩ u) := by
  have h0 := (Below.refl 0 b).setCell (p := ⟨bc, 0, none⟩) (Nat.zero_le _) u
  refine ⟨(h0.os.trans hg.os).trans h.os, (h0.tape.trans hg.tape).trans h.tape, (h0.output.trans hg.output).trans h.output, Nat.le_trans h.size (Nat.le_trans hg.size h0.size), fun k hk hb hr => ?_⟩
  rw [Below.heap_setCell b ⟨bc, 0, none⟩ u k hb, hg.block k (Nat.lt_of_lt_of_le hk h.size) hr, h.block k hk]
def cntB (old now : List It) (n : Int) : Bool := !decide (getI old n = getI now n)
def cntL (old now : List It) (L : List Int) (n : Int) : List Int := if cntB old now n then L ++ [n] else L
def CtPost (bc base : Nat) (v : Value) (L : List Int) (w : World) (e : Ending) (w' : World) : Prop :=
  e = .returned (.tuple #[]) ∧ ∃ v', Blk w' bc 28 [v'] ∧ w'.ownsRow base 3 1 v' L.length (L.flatMap cN) ∧ KeptBut bc v.ownBlock w w' ∧ (v'.ownBlock = v.ownBlock ∨ ∃ g, v'.ownBlock = some g ∧ w.heap.size ≤ g)
theorem own_neC {W : World} {b n bc : Nat} {v : Value} {xs us : List Value} (h : W.ownsRow b 3 1 v n xs) (hb : Blk W bc 28 us) : v.ownBlock ≠ some bc := by
  intro e
  rcases h.2 with ⟨rfl, _⟩ | ⟨g', _, cur', rfl, _, p3, _⟩
  · cases e
  · simp only [Value.ownBlock, Option.some.injEq] at e
    subst e
    unfold Blk at hb
    rw [hb] at p3
    simp only [Option.some.injEq, Obj.cells.injEq] at p3
    exact absurd p3.2.1 (by decide)
theorem own_setO {W : World} {b n k : Nat} {e : TypeId} {v : Value} {xs : List Value} (h : W.ownsRow b e k v n xs) {p : Addr} (hp : v.ownBlock ≠ some p.block) (u : Value) : (W.setCell p u).ownsRow b e k v n xs := by
  refine ⟨h.1, ?_⟩
  rcases h.2 with h | ⟨g, c', cur, q1, q2, q3, q4⟩
  · exact .inl h
  · refine .inr ⟨g, c', cur, q1, q2, (Below.heap_setCell W p u g (fun e => hp (by rw [q1, ← e]; rfl))).trans q3, q4⟩
theorem Blk.one {w : World} {g : Nat} {t : TypeId} {a : Value} (h : Blk w g t [a]) (u : Value) : Blk (w.setCell ⟨g, 0, none⟩ u) g t [u] := h.set 0 u
set_option maxRecDepth 100000 in
set_option maxHeartbeats 4000000 in
theorem c_contest (bo bn bc mo mn base : Nat) (v : Value) (L : List Int) (old now : List It) (n : Int) (w : World) (ho : w.cell? ⟨bo, 0, none⟩ = some (.map (some mo))) (hn : w.cell? ⟨bn, 0, none⟩ = some (.map (some mn)))
    (hio : IM w mo (old.map kvI)) (hin : IM w mn (now.map kvI)) (hbc : Blk w bc 28 [v]) (hown : w.ownsRow base 3 1 v L.length (L.flatMap cN)) (hbase : base ≤ w.heap.size) (hL : L.length ≤ 1000000) :
    Calls Try.prog 42 #[.int .i64 n, .pointer (some ⟨bo, 0, none⟩), .pointer (some ⟨bn, 0, none⟩), .pointer (some ⟨bc, 0, none⟩)] w (CtPost bc base v (cntL old now L n) w) := by
  obtain ⟨i1, hi1, hy0, hy1, hy2⟩ := info_parts Try.infoInt
  have hlo := look_get n old
  have hln := look_get n now
  obtain ⟨x, hx⟩ : ∃ x, x = (getI old n).getD zIt := ⟨_, rfl⟩
  obtain ⟨y, hy⟩ : ∃ y, y = (getI now n).getD zIt := ⟨_, rfl⟩
  obtain ⟨p, hp⟩ : ∃ p, p = (getI old n).isSome := ⟨_, rfl⟩
  obtain ⟨q, hq⟩ : ∃ q, q = (getI now n).isSome := ⟨_, rfl⟩
  rw [← hx, ← hp] at hlo
  rw [← hy, ← hq] at hln
  have hct : cntB old now n = (p != q || !decide (x = y)) := by
    unfold cntB
    rw [hx, hy, hp, hq]
    cases getI old n <;> cases getI now n <;> simp
  have HLo := hide hlo
  have HLn := hide hln
  have HO := hide hio
  have HN := hide hin
  have HC := hide hct
  have hcb := hbc.cell 0
  have hfr := hbc.free 0
  have hcl := hbc.lt
  have hne := own_neC hown hbc
  have HB := hide (And.intro hbc (And.intro hown hne))
  have hol := World.block_lt_of_cell? w _ ho
  have hnl := World.block_lt_of_cell? w _ hn
  simp only [] at hol hnl
  change w.cell? ⟨bc, 0, none⟩ = some v at hcb
  clear hlo hln hio hin hct hbc hown hx hy hp hq hne
  have hb2 := balloc (balloc (Below.refl w.heap.size w) (.cells #[.int .i64 x.id, .int .i64 x.kind, .int .i64 x.x, .int .i64 x.y, .string x.text, .int .i64 x.mod] 36)) (.cells #[.int .i64 y.id, .int .i64 y.kind, .int .i64 y.x, .int .i64 y.y, .string y.text, .int .i64 y.mod] 36)
  have hbase2 := Nat.le_trans hbase hb2.size
  have gA : SlR ((((w.alloc (.cells #[.int .i64 x.id, .int .i64 x.kind, .int .i64 x.x, .int .i64 x.y, .string x.text, .int .i64 x.mod] 36)).alloc (.cells #[.int .i64 y.id, .int .i64 y.kind, .int .i64 y.x, .int .i64 y.y, .string y.text, .int .i64 y.mod] 36))).alloc (.cells (cN n).toArray 3)) _ 1 (some ⟨w.heap.size + 1 + 1, 0, none⟩) 1 (cN n) := slr_new _ _ rfl (by simp)
  by_cases hpq : p = q
  · subst hpq
    have n1 : (p != p) = false := by simp
    by_cases hxy : x = y
    · have hq0 : ∀ w, (binOp .neq 36 (itV x) (itV y)).run Try.prog w = .ok (.bool false) w := fun w => by rw [neqIt w x y]; simp [hxy]
      simp only [itV] at hq0
      have HF := hide (show cntB old now n = false by rw [HC.out, n1]; simp [hxy])
      clear hxy
      go_enter Try.func42, Try.ntmps42
      go_wp2_with (first | (at_lookup; refine wpList_lookup_im rfl _ _ 82 true rfl 3 36 _ Try.underlying82 Try.underlying3 (zvItem _) rfl HO.out n rfl (.tuple #[itV x, .bool p]) HLo.out ?_) | (at_lookup; refine wpList_lookup_im rfl _ _ 82 true rfl 3 36 _ Try.underlying82 Try.underlying3 (zvItem _) rfl (HN.out.alloc _) n rfl (.tuple #[itV y, .bool p]) HLn.out ?_))
      go_end0
      have hLe : cntL old now L n = L := by unfold cntL; rw [if_neg (by rw [HF.out]; decide)]
      unfold CtPost
      rw [hLe]
      exact ⟨rfl, v, (HB.out.1.alloc _).alloc _, (HB.out.2.1.alloc _).alloc _, KeptBut.of_below hb2, .inl rfl⟩
    · have hq0 : ∀ w, (binOp .neq 36 (itV x) (itV y)).run Try.prog w = .ok (.bool true) w := fun w => by rw [neqIt w x y]; simp [hxy]
      simp only [itV] at hq0
      have HF := hide (show cntB old now n = true by rw [HC.out, n1]; simp [hxy])
      clear hxy
      go_enter Try.func42, Try.ntmps42
      go_wp2_with (first | (at_lookup; refine wpList_lookup_im rfl _ _ 82 true rfl 3 36 _ Try.underlying82 Try.underlying3 (zvItem _) rfl HO.out n rfl (.tuple #[itV x, .bool p]) HLo.out ?_) | (at_lookup; refine wpList_lookup_im rfl _ _ 82 true rfl 3 36 _ Try.underlying82 Try.underlying3 (zvItem _) rfl (HN.out.alloc _) n rfl (.tuple #[itV y, .bool p]) HLn.out ?_) | (at_builtin; refine wpList_append_sl (size := 1) rfl _ _ 28 rfl base 3 i1 (.int .i64 0) 8 Try.underlying28 hi1 hy0 hy1 hy2 rfl (by decide) _ L.length (L.flatMap cN) rfl (((HB.out.2.1.alloc _).alloc _).alloc _) 1 1 (cN n) rfl gA (Below.refl _ _) (fun u hu => oneN [n] u (by simpa using hu)) (by unfold maxLen; omega) (by omega) (by simp; omega) ?_; intro v6 w6 ho6 hg6 hor6; obtain ⟨A6, c6, he6, _, _, _⟩ := SlR.of_own ho6; subst he6; have gC := (((HB.out.1.alloc _).alloc _).alloc _).grown hg6 HB.out.2.2; obtain ⟨hc6, hf6⟩ := gC.all1; have hl6 := gC.lt))
      go_end0
      have hLe : cntL old now L n = L ++ [n] := by unfold cntL; rw [if_pos HF.out]
      unfold CtPost
      rw [hLe]
      refine ⟨rfl, .slice A6 (L.length + 1) c6, gC.one _, ?_, KeptBut.app (balloc hb2 _) hg6 _, ?_⟩
      · rw [List.length_append, flatN_snoc]
        exact own_setO ho6 (own_neC ho6 gC) _
      · rcases hor6 with h | h
        · exact .inl h
        · exact .inr ⟨_, h, by simp; omega⟩
  · cases p with
    | true =>
      cases q with
      | true => exact absurd rfl hpq
      | false =>
        have HF := hide (show cntB old now n = true by rw [HC.out]; rfl)
        clear hpq
        go_enter Try.func42, Try.ntmps42
        go_wp2_with (first | (at_lookup; refine wpList_lookup_im rfl _ _ 82 true rfl 3 36 _ Try.underlying82 Try.underlying3 (zvItem _) rfl HO.out n rfl (.tuple #[itV x, .bool true]) HLo.out ?_) | (at_lookup; refine wpList_lookup_im rfl _ _ 82 true rfl 3 36 _ Try.underlying82 Try.underlying3 (zvItem _) rfl (HN.out.alloc _) n rfl (.tuple #[itV y, .bool false]) HLn.out ?_) | (at_builtin; refine wpList_append_sl (size := 1) rfl _ _ 28 rfl base 3 i1 (.int .i64 0) 8 Try.underlying28 hi1 hy0 hy1 hy2 rfl (by decide) _ L.length (L.flatMap cN) rfl (((HB.out.2.1.alloc _).alloc _).alloc _) 1 1 (cN n) rfl gA (Below.refl _ _) (fun u hu => oneN [n] u (by simpa using hu)) (by unfold maxLen; omega) (by omega) (by simp; omega) ?_; intro v6 w6 ho6 hg6 hor6; obtain ⟨A6, c6, he6, _, _, _⟩ := SlR.of_own ho6; subst he6; have gC := (((HB.out.1.alloc _).alloc _).alloc _).grown hg6 HB.out.2.2; obtain ⟨hc6, hf6⟩ := gC.all1; have hl6 := gC.lt))
        go_end0
        have hLe : cntL old now L n = L ++ [n] := by unfold cntL; rw [if_pos HF.out]
        unfold CtPost
        rw [hLe]
        refine ⟨rfl, .slice A6 (L.length + 1) c6, gC.one _, ?_, KeptBut.app (balloc hb2 _) hg6 _, ?_⟩
        · rw [List.length_append, flatN_snoc]
          exact own_setO ho6 (own_neC ho6 gC) _
        · rcases hor6 with h | h
          · exact .inl h
          · exact .inr ⟨_, h, by simp; omega⟩
    | false =>
      cases q with
      | false => exact absurd rfl hpq
      | true =>
        have HF := hide (show cntB old now n = true by rw [HC.out]; rfl)
        clear hpq
        go_enter Try.func42, Try.ntmps42
        go_wp2_with (first | (at_lookup; refine wpList_lookup_im rfl _ _ 82 true rfl 3 36 _ Try.underlying82 Try.underlying3 (zvItem _) rfl HO.out n rfl (.tuple #[itV x, .bool false]) HLo.out ?_) | (at_lookup; refine wpList_lookup_im rfl _ _ 82 true rfl 3 36 _ Try.underlying82 Try.underlying3 (zvItem _) rfl (HN.out.alloc _) n rfl (.tuple #[itV y, .bool true]) HLn.out ?_) | (at_builtin; refine wpList_append_sl (size := 1) rfl _ _ 28 rfl base 3 i1 (.int .i64 0) 8 Try.underlying28 hi1 hy0 hy1 hy2 rfl (by decide) _ L.length (L.flatMap cN) rfl (((HB.out.2.1.alloc _).alloc _).alloc _) 1 1 (cN n) rfl gA (Below.refl _ _) (fun u hu => oneN [n] u (by simpa using hu)) (by unfold maxLen; omega) (by omega) (by simp; omega) ?_; intro v6 w6 ho6 hg6 hor6; obtain ⟨A6, c6, he6, _, _, _⟩ := SlR.of_own ho6; subst he6; have gC := (((HB.out.1.alloc _).alloc _).alloc _).grown hg6 HB.out.2.2; obtain ⟨hc6, hf6⟩ := gC.all1; have hl6 := gC.lt))
        go_end0
        have hLe : cntL old now L n = L ++ [n] := by unfold cntL; rw [if_pos HF.out]
        unfold CtPost
        rw [hLe]
        refine ⟨rfl, .slice A6 (L.length + 1) c6, gC.one _, ?_, KeptBut.app (balloc hb2 _) hg6 _, ?_⟩
        · rw [List.length_append, flatN_snoc]
          exact own_setO ho6 (own_neC ho6 gC) _
        · rcases hor6 with h | h
          · exact .inl h
          · exact .inr ⟨_, h, by simp; omega⟩
end Go.Proofs.Ytncdombfhcfobaa
