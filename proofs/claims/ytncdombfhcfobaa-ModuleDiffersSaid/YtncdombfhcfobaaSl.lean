/- Plain words on slices: a cut of a slice, and an append of what a slice holds, nil or not, empty or not. -/
import Derived.Test.YtncdombfhcfobaaBase
import Derived.Maps.AppendAt
import Derived.Laws.AppendOwnNone
import Derived.RegionTactic
namespace Go.Proofs.Ytncdombfhcfobaa
open Go.RowKit
theorem addr_add (b off j : Nat) : (⟨b, off, none⟩ : Addr).add j = ⟨b, off + j, none⟩ := by unfold Addr.add; split <;> simp_all
section
variable {P : Program} {w0 : World} {B size n c : Nat} {A : Option Addr} {xs : List Value}
theorem SlR.drop (h : SlR w0 B size A n xs) {k : Nat} (hk : k ≤ n) (m : Nat) : SlR w0 B size (if m = k then A else A.map (·.add (k * size))) (n - k) (xs.drop (k * size)) ∨ m = k ∧ k < n := by
  by_cases hm : m = k ∧ k < n
  · exact .inr hm
  · refine .inl ⟨by rw [List.length_drop, h.1, ← Nat.sub_mul], fun hn => ?_⟩
    obtain ⟨b, off, rfl, hb, hc⟩ := h.2 (by omega)
    have hmk : m ≠ k := by omega
    rw [if_neg hmk]
    refine ⟨b, off + k * size, by simp [addr_add], hb, fun j u hu => ?_⟩
    rw [List.getElem?_drop] at hu
    have := hc (k * size + j) u hu
    rw [← Nat.add_assoc] at this
    exact this
/-- 's[k:]' -/
theorem SlR.cutLo (h : SlR w0 B size A n xs) (hnc : n ≤ c) {k : Nat} (hk : k ≤ n) (t e : TypeId) (i : TypeInfo) (ht : P.underlying t = some (.slice e)) (hi : P.info? e = some i) (hs : i.size = size) :
    ∃ A', SlR w0 B size A' (n - k) (xs.drop (k * size)) ∧ ∀ w, (Instr.slice t (.slice A n c) (some (.int .i64 (k : Int))) none none).run P w = .ok (.slice A' (n - k) (c - k)) w := by
  refine ⟨if c = k then A else A.map (·.add (k * size)), ?_, fun w => ?_⟩
  · rcases h.drop hk c with h1 | ⟨h1, h2⟩
    · exact h1
    · omega
  · have he : P.elem t = e := by simp [Program.elem, ht]
    have h1 : P.underlying t = some (.slice (P.elem t)) := by rw [he]; exact ht
    rw [run_slice_l w t A n c h1 .i64 k (by omega) (by omega), he]
    subst hs
    simp [sizeOf, typeInfo, hi, Result.andThen, sliced]
/-- 's[:k]' -/
theorem SlR.cutHi (h : SlR w0 B size A n xs) (hnc : n ≤ c) {k : Nat} (hk : k ≤ n) (t e : TypeId) (i : TypeInfo) (ht : P.underlying t = some (.slice e)) (hi : P.info? e = some i) :
    ∃ A', SlR w0 B size A' k (xs.take (k * size)) ∧ ∀ w, (Instr.slice t (.slice A n c) none (some (.int .i64 (k : Int))) none).run P w = .ok (.slice A' k c) w := by
  refine ⟨A, h.upto hk, fun w => ?_⟩
  have he : P.elem t = e := by simp [Program.elem, ht]
  have h1 : P.underlying t = some (.slice (P.elem t)) := by rw [he]; exact ht
  rw [run_slice_h w t A n c h1 .i64 k (by omega) (by omega), he]
  simp [sizeOf, typeInfo, hi, Result.andThen, sliced]
  rintro _
  cases A with
  | none => rfl
  | some a => obtain ⟨b, off, sp⟩ := a; simp [Addr.add]
theorem run_append_sl {w : World} (base : Nat) (t ty e : TypeId) (i : TypeInfo) (z : Value) (bytes : Nat) (ht : P.underlying t = some (.slice e)) (hi : P.info? e = some i) (hz : i.zero = some z)
    (hsize : i.size = size) (hby : i.bytes = bytes) (hzs : z.cells.size = size) (hsz : 0 < size)
    (v : Value) (n : Nat) (xs : List Value) (hown : w.ownsRow base e size v n xs)
    (m c : Nat) (news : List Value) (hsl : SlR w0 B size A m news) (hbl : Below B w0 w) (h1 : ∀ u ∈ news, u.oneCell' = true)
    (h63 : n + m ≤ maxLen) (hbytes : (n + m) * bytes ≤ 140737488355328) (hbase : base ≤ w.heap.size) :
    ∃ v' w', (Builtin.append_ #[t, t] ty #[v, .slice A m c]).run P w = .ok v' w' ∧ w'.ownsRow base e size v' (n + m) (xs ++ news) ∧ w.grownBy w' v.ownBlock ∧ (v'.ownBlock = v.ownBlock ∨ v'.ownBlock = some w.heap.size) := by
  cases A with
  | none =>
    have hm : m = 0 := by
      rcases Nat.eq_zero_or_pos m with h | h
      · exact h
      · obtain ⟨_, _, he, _⟩ := hsl.2 h; cases he
    subst hm
    have hnil := hsl.zero rfl
    subst hnil
    refine ⟨v, w, ?_, by simpa using hown, ⟨rfl, rfl, rfl, Nat.le_refl _, fun _ _ _ => rfl⟩, .inl rfl⟩
    rcases hown.2 with ⟨rfl, rfl⟩ | ⟨g, cap, cur, rfl, _, _, hnc, _⟩
    · simp [Builtin.append_, run_underlying ht, sizeOf, typeInfo, hi, Builtin.lenOf, Builtin.firstCells]
    · simp [Builtin.append_, run_underlying ht, sizeOf, typeInfo, hi, Builtin.lenOf, Builtin.firstCells, hnc, storeCells]
  | some a =>
    have hnews : ∀ j u, news[j]? = some u → w.cell? (a.add j) = some u := by
      intro j u hu
      have hlt := (List.getElem?_eq_some_iff.1 hu).1
      rw [hsl.1] at hlt
      obtain ⟨b, off, he, hb, hc⟩ := hsl.2 (Nat.pos_of_ne_zero (fun h => by simp [h] at hlt))
      cases he
      rw [addr_add]
      exact (hbl.cell (p := ⟨b, _, none⟩) hb).trans (hc j u hu)
    obtain ⟨v', w', r1, r2, r3, _, r5⟩ := run_append_own_at (P := P) w base t ty e i z size bytes ht hi hz hsize hby hzs hsz v n xs hown a m c news hsl.1 hnews h1 h63 hbytes hbase
    exact ⟨v', w', r1, r2, r3, r5⟩
theorem wp_append_sl {w : World} {o : Oper} {a : Act} {K : Act → World → Prop} {Q : Exit → Act → World → Prop} (s x : Operand) (t : TypeId)
    (ho : o.op = .call { callee := .builtin .append, args := #[s, x], argTypes := #[t, t] })
    (base : Nat) (e : TypeId) (i : TypeInfo) (z : Value) (bytes : Nat) (ht : P.underlying t = some (.slice e)) (hi : P.info? e = some i) (hz : i.zero = some z)
    (hsize : i.size = size) (hby : i.bytes = bytes) (hzs : z.cells.size = size) (hsz : 0 < size)
    (v : Value) (n : Nat) (xs : List Value) (hs : a.eval s = v) (hown : w.ownsRow base e size v n xs)
    (m c : Nat) (news : List Value) (hx : a.eval x = .slice A m c) (hsl : SlR w0 B size A m news) (hbl : Below B w0 w) (h1 : ∀ u ∈ news, u.oneCell' = true)
    (h63 : n + m ≤ maxLen) (hbytes : (n + m) * bytes ≤ 140737488355328) (hbase : base ≤ w.heap.size)
    (h : ∀ v' w', w'.ownsRow base e size v' (n + m) (xs ++ news) → w.grownBy w' v.ownBlock → (v'.ownBlock = v.ownBlock ∨ v'.ownBlock = some w.heap.size) → K (a.put o.dst v') w') : o.wp P a w K Q := by
  obtain ⟨v', w', hr, h2, h3, h4⟩ := run_append_sl (P := P) (w := w) base t o.type e i z bytes ht hi hz hsize hby hzs hsz v n xs hown m c news hsl hbl h1 h63 hbytes hbase
  unfold Oper.wp execOp
  simp only [ho, resolve, invoke, builtin, Sem.run_bind, Sem.run_pure, Result.andThen_ok, List.map_toArray, List.map_cons, List.map_nil, hs, hx, hr]
  exact h v' w' h2 h3 h4
/-- at the list of a plain region's operations -/
theorem wpList_append_sl {w : World} {ops : Array Oper} {rest : List Oper} {o : Oper} {a : Act} {Q : Exit → Act → World → Prop} (hgd : o.guard = none) (s x : Operand) (t : TypeId)
    (ho : o.op = .call { callee := .builtin .append, args := #[s, x], argTypes := #[t, t] })
    (base : Nat) (e : TypeId) (i : TypeInfo) (z : Value) (bytes : Nat) (ht : P.underlying t = some (.slice e)) (hi : P.info? e = some i) (hz : i.zero = some z)
    (hsize : i.size = size) (hby : i.bytes = bytes) (hzs : z.cells.size = size) (hsz : 0 < size)
    (v : Value) (n : Nat) (xs : List Value) (hs : a.eval s = v) (hown : w.ownsRow base e size v n xs)
    (m c : Nat) (news : List Value) (hx : a.eval x = .slice A m c) (hsl : SlR w0 B size A m news) (hbl : Below B w0 w) (h1 : ∀ u ∈ news, u.oneCell' = true)
    (h63 : n + m ≤ maxLen) (hbytes : (n + m) * bytes ≤ 140737488355328) (hbase : base ≤ w.heap.size)
    (h : ∀ v' w', w'.ownsRow base e size v' (n + m) (xs ++ news) → w.grownBy w' v.ownBlock → (v'.ownBlock = v.ownBlock ∨ v'.ownBlock = some w.heap.size) → wpList P ops Q rest (a.put o.dst v') w') : wpList P ops Q (o :: rest) a w :=
  wpList_plain hgd fun _ hK => wp_append_sl s x t ho base e i z bytes ht hi hz hsize hby hzs hsz v n xs hs hown m c news hx hsl hbl h1 h63 hbytes hbase fun v' w' h2 h3 h4 => hK _ _ (h v' w' h2 h3 h4)
/-- at a step of a region that draws its order -/
theorem step_append_sl {w : World} {ops : Array Oper} {o : Oper} {a : Act} {K : Act → World → Prop} {Q : Exit → Act → World → Prop} {E : Prop} (hgd : o.guard = none) (s x : Operand) (t : TypeId)
    (ho : o.op = .call { callee := .builtin .append, args := #[s, x], argTypes := #[t, t] })
    (base : Nat) (e : TypeId) (i : TypeInfo) (z : Value) (bytes : Nat) (ht : P.underlying t = some (.slice e)) (hi : P.info? e = some i) (hz : i.zero = some z)
    (hsize : i.size = size) (hby : i.bytes = bytes) (hzs : z.cells.size = size) (hsz : 0 < size)
    (v : Value) (n : Nat) (xs : List Value) (hs : a.eval s = v) (hown : w.ownsRow base e size v n xs)
    (m c : Nat) (news : List Value) (hx : a.eval x = .slice A m c) (hsl : SlR w0 B size A m news) (hbl : Below B w0 w) (h1 : ∀ u ∈ news, u.oneCell' = true)
    (h63 : n + m ≤ maxLen) (hbytes : (n + m) * bytes ≤ 140737488355328) (hbase : base ≤ w.heap.size)
    (h : ∀ v' w', w'.ownsRow base e size v' (n + m) (xs ++ news) → w.grownBy w' v.ownBlock → (v'.ownBlock = v.ownBlock ∨ v'.ownBlock = some w.heap.size) → K (a.put o.dst v') w') :
    if Region.wanted o (yielded ops a.tmps) = true then Oper.wp P o a w K Q else E := by
  have hw : Region.wanted o (yielded ops a.tmps) = true := by simp [Region.wanted, hgd]
  rw [if_pos hw]
  exact wp_append_sl s x t ho base e i z bytes ht hi hz hsize hby hzs hsz v n xs hs hown m c news hx hsl hbl h1 h63 hbytes hbase h
end
end Go.Proofs.Ytncdombfhcfobaa
