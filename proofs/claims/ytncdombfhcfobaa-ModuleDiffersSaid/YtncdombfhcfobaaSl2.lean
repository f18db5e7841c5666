/- Plain words on slices: a cut of a slice, and an append of what a slice holds, nil or not, empty or not. -/
import Derived.Test.YtncdombfhcfobaaBase
import Derived.Maps.AppendAt
import Derived.Laws.AppendOwnNone
import Derived.RegionTactic
namespace Go.Proofs.Ytncdombfhcfobaa
open Go.RowKit
theorem addr_add (b off j : Nat) : (⟨b, off, none⟩ : Addr).add j = ⟨b, off + j, none⟩ := by unfold Addr.add; split <;> simp_all
section
variable {P : Program} {w0 : World} {B size n c : Nat} {A : Option Addr} {xs : List Value}
theorem SlR.drop (h : SlR w0 B size A n xs) {k : Nat} (hk : k ≤ n) (m : Nat) : SlR w0 B size (if m = k then A else A.map (·.add (k * size))) (n - k) (xs.drop (k * size)) ∨ m = k ∧ k < n := by
  by_cases hm : m = k ∧ k < n
  · exact .inr hm
  · refine .inl ⟨by rw [List.length_drop, h.1, ← Nat.sub_mul], fun hn => ?_⟩
    obtain ⟨b, off, rfl, hb, hc⟩ := h.2 (by omega)
    have hmk : m ≠ k := by omega
    rw [if_neg hmk]
    refine ⟨b, off + k * size, by simp [addr_add], hb, fun j u hu => ?_⟩
    rw [List.getElem?_drop] at hu
    have := hc (k * size + j) u hu
    rw [← Nat.add_assoc] at this
    exact this
/-- 's[k:]' -/
theorem SlR.cutLo (h : SlR w0 B size A n xs) (hnc : n ≤ c) {k : Nat} (hk : k ≤ n) (t e : TypeId) (i : TypeInfo) (ht : P.underlying t = some (.slice e)) (hi : P.info? e = some i) (hs : i.size = size) :
    ∃ A', SlR w0 B size A' (n - k) (xs.drop (k * size)) ∧ ∀ w, (Instr.slice t (.slice A n c) (some (.int .i64 (k : Int))) none none).run P w = .ok (.slice A' (n - k) (c - k)) w := by
  refine ⟨if c = k then A else A.map (·.add (k * size)), ?_, fun w => ?_⟩
  · rcases h.drop hk c with h1 | ⟨h1, h2⟩
    · exact h1
    · omega
  · have he : P.elem t = e := by simp [Program.elem, ht]
    have h1 : P.underlying t = some (.slice (P.elem t)) := by rw [he]; exact ht
    rw [run_slice_l w t A n c h1 .i64 k (by omega) (by omega), he]
    subst hs
    simp [sizeOf, typeInfo, hi, Result.andThen, sliced]
/-- 's[:k]' -/
theorem SlR.cutHi (h : SlR w0 B size A n xs) (hnc : n ≤ c) {k : Nat} (hk : k ≤ n) (t e : TypeId) (i : TypeInfo) (ht : P.underlying t = some (.slice e)) (hi : P.info? e = some i) :
    ∃ A', SlR w0 B size A' k (xs.take (k * size)) ∧ ∀ w, (Instr.slice t (.slice A n c) none (some (.int .i64 (k : Int))) none).run P w = .ok (.slice A' k c) w := by
  refine ⟨A, h.upto hk, fun w => ?_⟩
  have he : P.elem t = e := by simp [Program.elem, ht]
  have h1 : P.underlying t = some (.slice (P.elem t)) := by rw [he]; exact ht
  rw [run_slice_h w t A n c h1 .i64 k (by omega) (by omega), he]
  simp [sizeOf, typeInfo, hi, Result.andThen, sliced]
  rintro _
  cases A with
  | none => rfl
  | some a => obtain ⟨b, off, sp⟩ := a; simp [Addr.add]
theorem run_append_sl {w : World} (base : Nat) (t ty e : TypeId) (i : TypeInfo) (z : Value) (bytes : Nat) (ht : P.underlying t = some (.slice e)) (hi : P.info? e = some i) (hz : i.zero = some z)
    (hsize : i.size = size) (hby : i.bytes = bytes) (hzs : z.cells.size = size) (hsz : 0 < size)
    (v : Value) (n : Nat) (xs : List Value) (hown : w.ownsRow base e size v n xs)
    (m c : Nat) (news : List Value) (hsl : SlR w0 B size A m news) (hbl : Below B w0 w) (h1 : ∀ u ∈ news, u.oneCell' = true)
    (h63 : n + m ≤ maxLen) (hbytes : (n + m) * bytes ≤ 140737488355328) (hbase : base ≤ w.heap.size) :
    ∃ v' w', (Builtin.append_ #[t, t] ty #[v, .slice A m c]).run P w = .ok v' w' ∧ w'.ownsRow base e size v' (n + m) (xs ++ news) ∧ w.grownBy w' v.ownBlock ∧ (v'.ownBlock = v.ownBlock ∨ v'.ownBlock = some w.heap.size) := by
  cases A with
  | none =>
    have hm : m = 0 := by
      rcases Nat.eq_zero_or_pos m with h | h
      · exact h
      · obtain ⟨_, _, he, _⟩ := hsl.2 h; cases he
    subst hm
    have hnil := hsl.zero rfl
    subst hnil
    refine ⟨v, w, ?_, by simpa using hown, ⟨rfl, rfl, rfl, Nat.le_refl _, fun _ _ _ => rfl⟩, .inl rfl⟩
    rcases hown.2 with ⟨rfl, rfl⟩ | ⟨g, cap, cur, rfl, _, _, hnc, _⟩
    · simp [Builtin.append_, run_underlying ht, sizeOf, typeInfo, hi, Builtin.lenOf, Builtin.firstCells]
    · simp [Builtin.append_, run_underlying ht, sizeOf, typeInfo, hi, Builtin.lenOf, Builtin.firstCells, hnc, storeCells]
  | some a =>
    have hnews : ∀ j u, news[j]? = some u → w.cell? (a.add j) = some u := by
      intro j u hu
      have hlt := (List.getElem?_eq_some_iff.1 hu).1
      rw [hsl.1] at hlt
      obtain ⟨b, off, he, hb, hc⟩ := hsl.2 (Nat.pos_of_ne_zero (fun h => by simp [h] at hlt))
      cases he
      rw [addr_add]
      exact (hbl.cell (p := ⟨b, _, none⟩) hb).trans (hc j u hu)
    obtain ⟨v', w', r1, r2, r3, _, r5⟩ := run_append_own_at (P := P) w base t ty e i z size bytes ht hi hz hsize hby hzs hsz v n xs hown a m c news hsl.1 hnews h1 h63 hbytes hbase
    exact ⟨v', w', r1, r2, r3, r5⟩
theorem wp_append_sl {w : World} {o : Oper} {a : Act} {K : Act → World → Prop} {Q : Exit → Act → World → Prop} (s x : Operand) (t : TypeId)
    (ho : o.op = .call { callee := .builtin .append, args := #[s, x], argTypes := #[t, t] })
    (base : Nat) (e : TypeId) (i : TypeInfo) (z : Value) (bytes : Nat) (ht : P.underlying t = some (.slice e)) (hi : P.info? e = some i) (hz : i.zero = some z)
    (hsize : i.size = size) (hby : i.bytes = bytes) (hzs : z.cells.size = size) (hsz : 0 < size)
    (v : Value) (n : Nat) (xs : List Value) (hs : a.eval s = v) (hown : w.ownsRow base e size v n xs)
    (m c : Nat) (news : List Value) (hx : a.eval x = .slice A m c) (hsl : SlR w0 B size A m news) (hbl : Below B w0 w) (h1 : ∀ u ∈ news, u.oneCell' = true)
    (h63 : n + m ≤ maxLen) (hbytes : (n + m) * bytes ≤ 140737488355328) (hbase : base ≤ w.heap.size)
    (h : ∀ v' w', w'.ownsRow base e size v' (n + m) (xs ++ news) → w.grownBy w' v.ownBlock → (v'.ownBlock = v.ownBlock ∨ v'.ownBlock = some w.heap.size) → K (a.put o.dst v') w') : o.wp P a w K Q := by
  obtain ⟨v', w', hr, h2, h3, h4⟩ := run_append_sl (P := P) (w := w) base t o.type e i z bytes ht hi hz hsize hby hzs hsz v n xs hown m c news hsl hbl h1 h63 hbytes hbase
  unfold Oper.wp execOp
  simp only [ho, resolve, invoke, builtin, Sem.run_bind, Sem.run_pure, Result.andThen_ok, List.map_toArray, List.map_cons, List.map_nil, hs, hx, hr]
  exact h v' w' h2 h3 h4
/-- at the list of a plain region's operations -/
theorem wpList_append_sl {w : World} {ops : Array Oper} {rest : List Oper} {o : Oper} {a : Act} {Q : Exit → Act → World → Prop} (hgd : o.guard = none) (s x : Operand) (t : TypeId)
    (ho : o.op = .call { callee := .builtin .append, args := #[s, x], argTypes := #[t, t] })
    (base : Nat) (e : TypeId) (i : TypeInfo) (z : Value) (bytes : Nat) (ht : P.underlying t = some (.slice e)) (hi : P.info? e = some i) (hz : i.zero = some z)
    (hsize : i.size = size) (hby : i.bytes = bytes) (hzs : z.cells.size = size) (hsz : 0 < size)
    (v : Value) (n : Nat) (xs : List Value) (hs : a.eval s = v) (hown : w.ownsRow base e size v n xs)
    (m c : Nat) (news : List Value) (hx : a.eval x = .slice A m c) (hsl : SlR w0 B size A m news) (hbl : Below B w0 w) (h1 : ∀ u ∈ news, u.oneCell' = true)
    (h63 : n + m ≤ maxLen) (hbytes : (n + m) * bytes ≤ 140737488355328) (hbase : base ≤ w.heap.size)
    (h : ∀ v' w', w'.ownsRow base e size v' (n + m) (xs ++ news) → w.grownBy w' v.ownBlock → (v'.ownBlock = v.ownBlock ∨ v'.ownBlock = some w.heap.size) → wpList P ops Q rest (a.put o.dst v') w') : wpList P ops Q (o :: rest) a w :=
  wpList_plain hgd fun _ hK => wp_append_sl s x t ho base e i z bytes ht hi hz hsize hby hzs hsz v n xs hs hown m c news hx hsl hbl h1 h63 hbytes hbase fun v' w' h2 h3 h4 => hK _ _ (h v' w' h2 h3 h4)
/-- at a step of a region that draws its order -/
theorem step_append_sl {w : World} {ops : Array Oper} {o : Oper} {a : Act} {K : Act → World → Prop} {Q : Exit → Act → World → Prop} {E : Prop} (hgd : o.guard = none) (s x : Operand) (t : TypeId)
    (ho : o.op = .call { callee := .builtin .append, args := #[s, x], argTypes := #[t, t] })
    (base : Nat) (e : TypeId) (i : TypeInfo) (z : Value) (bytes : Nat) (ht : P.underlying t = some (.slice e)) (hi : P.info? e = some i) (hz : i.zero = some z)
    (hsize : i.size = size) (hby : i.bytes = bytes) (hzs : z.cells.size = size) (hsz : 0 < size)
    (v : Value) (n : Nat) (xs : List Value) (hs : a.eval s = v) (hown : w.ownsRow base e size v n xs)
    (m c : Nat) (news : List Value) (hx : a.eval x = .slice A m c) (hsl : SlR w0 B size A m news) (hbl : Below B w0 w) (h1 : ∀ u ∈ news, u.oneCell' = true)
    (h63 : n + m ≤ maxLen) (hbytes : (n + m) * bytes ≤ 140737488355328) (hbase : base ≤ w.heap.size)
    (h : ∀ v' w', w'.ownsRow base e size v' (n + m) (xs ++ news) → w.grownBy w' v.ownBlock → (v'.ownBlock = v.ownBlock ∨ v'.ownBlock = some w.heap.size) → K (a.put o.dst v') w') :
    if Region.wanted o (yielded ops a.tmps) = true then Oper.wp P o a w K Q else E := by
  have hw : Region.wanted o (yielded ops a.tmps) = true := by simp [Region.wanted, hgd]
  rw [if_pos hw]
  exact wp_append_sl s x t ho base e i z bytes ht hi hz hsize hby hzs hsz v n xs hs hown m c news hx hsl hbl h1 h63 hbytes hbase h
end
end Go.Proofs.Ytncdombfhcfobaa
/- Plain words on slices: a cut whose capacity is its length, and an append onto one (always a new array). -/
namespace Go.Proofs.Ytncdombfhcfobaa
open Go.RowKit
section
variable {P : Program} {w0 : World} {B size n c : Nat} {A : Option Addr} {xs : List Value}
/-- 's[:k:k]' -/
theorem SlR.cutHiM (h : SlR w0 B size A n xs) (hnc : n ≤ c) {k : Nat} (hk : k ≤ n) (t e : TypeId) (i : TypeInfo) (ht : P.underlying t = some (.slice e)) (hi : P.info? e = some i) :
    ∃ A', SlR w0 B size A' k (xs.take (k * size)) ∧ ∀ w, (Instr.slice t (.slice A n c) none (some (.int .i64 (k : Int))) (some (.int .i64 (k : Int)))).run P w = .ok (.slice A' k k) w := by
  refine ⟨A, h.upto hk, fun w => ?_⟩
  have he : P.elem t = e := by simp [Program.elem, ht]
  have h1 : P.underlying t = some (.slice (P.elem t)) := by rw [he]; exact ht
  rw [run_slice_hm w t A n c h1 .i64 .i64 k k (by omega) (by omega) (by omega), he]
  simp [sizeOf, typeInfo, hi, Result.andThen, sliced]
  rintro _
  cases A with
  | none => rfl
  | some a => obtain ⟨b, off, sp⟩ := a; simp [Addr.add]
theorem SlR.newsW {w : World} (h : SlR w0 B size A n xs) (hb : Below B w0 w) {a : Addr} (e : A = some a) : ∀ j u, xs[j]? = some u → w.cell? (a.add j) = some u := by
  subst e
  intro j u hu
  have hlt := (List.getElem?_eq_some_iff.1 hu).1
  rw [h.1] at hlt
  obtain ⟨b, off, he, hbb, hc⟩ := h.2 (Nat.pos_of_ne_zero (fun h => by simp [h] at hlt))
  cases he
  rw [addr_add]
  exact (hb.cell (p := ⟨b, _, none⟩) hbb).trans (hc j u hu)
theorem run_append_fresh {w : World} (base : Nat) (t ty e : TypeId) (i : TypeInfo) (z : Value) (bytes : Nat) (ht : P.underlying t = some (.slice e)) (hi : P.info? e = some i) (hz : i.zero = some z)
    (hsize : i.size = size) (hby : i.bytes = bytes) (hzs : z.cells.size = size)
    (n : Nat) (xs : List Value) (hsl : SlR w0 B size A n xs) (hbl : Below B w0 w) {w1 : World} {B1 m c : Nat} {A1 : Option Addr} {news : List Value} (hsl1 : SlR w1 B1 size A1 m news) (hbl1 : Below B1 w1 w) (hm : 0 < m)
    (h63 : n + m ≤ maxLen) (hbytes : (n + m) * bytes ≤ 140737488355328) (hbase : base ≤ w.heap.size) :
    ∃ v' w', (Builtin.append_ #[t, t] ty #[.slice A n n, .slice A1 m c]).run P w = .ok v' w' ∧ w'.ownsRow base e size v' (n + m) (xs ++ news) ∧ w.grownBy w' none := by
  subst hsize
  subst hby
  have hsmall : n + m ≤ 9223372036854775807 := by simp only [maxLen] at h63; omega
  obtain ⟨b1, o1, rfl, _, _⟩ := hsl1.2 hm
  have hn1 := hsl1.newsW hbl1 rfl
  have hlen : (xs ++ news).length = (n + m) * i.size := by rw [List.length_append, hsl.1, hsl1.1, Nat.add_mul]
  have key : ∀ old, old < n + m → (w.drew.alloc (.cells (xs.toArray ++ news.toArray ++ Builtin.zeroCells z.cells (grownCap w (n + m) old e - (n + m))) e)).ownsRow base e i.size (.slice (some ⟨w.heap.size, 0, none⟩) (n + m) (grownCap w (n + m) old e)) (n + m) (xs ++ news) ∧
      w.grownBy (w.drew.alloc (.cells (xs.toArray ++ news.toArray ++ Builtin.zeroCells z.cells (grownCap w (n + m) old e - (n + m))) e)) none := by
    intro old ho
    have hge := grownCap_ge w (n + m) old e
    have hcm : grownCap w (n + m) old e ≤ maxLen := grownCap_le_maxLen w (n + m) old e h63
    refine ⟨⟨hlen, .inr ⟨w.heap.size, _, _, rfl, hbase, heap_alloc_new w.drew _, hge, hcm, ?_, ?_⟩⟩, ⟨rfl, rfl, rfl, by simp, fun k hk _ => Below.heap_alloc w.drew _ k hk⟩⟩
    · simp only [Array.size_append, List.size_toArray, size_zeroCells, hzs, hsl.1, hsl1.1, ← Nat.add_mul]
      congr 1
      omega
    · simp only [Array.toList_append, List.append_assoc]
      rw [← List.append_assoc, ← hlen]
      exact List.take_left
  cases A with
  | none =>
    have h0 : n = 0 := by
      rcases Nat.eq_zero_or_pos n with h | h
      · exact h
      · obtain ⟨_, _, he, _⟩ := hsl.2 h; cases he
    subst h0
    have hnil := hsl.zero rfl
    subst hnil
    have hr := run_append_nil (P := P) w t ty e i z ht hi hz ⟨b1, o1, none⟩ m c news hsl1.1 hn1 hm (by omega) (by have hb := hbytes; simp only [Nat.zero_add] at hb; omega)
    have hk := key 0 (by omega)
    simp only [Nat.zero_add, List.nil_append, Array.empty_append] at hk ⊢
    exact ⟨_, _, hr, hk.1, hk.2⟩
  | some a =>
    have hr := run_append_grow (P := P) w t ty e i z ht hi hz a n n xs hsl.1 (hsl.newsW hbl rfl) ⟨b1, o1, none⟩ m c news hsl1.1 hn1 (by omega) (by omega) (growslice_fits (by omega) hbytes)
    have hk := key n (by omega)
    exact ⟨_, _, hr, hk.1, hk.2⟩
/-- at a step of a region that draws its order -/
theorem step_append_fresh {w : World} {ops : Array Oper} {o : Oper} {a : Act} {K : Act → World → Prop} {Q : Exit → Act → World → Prop} {E : Prop} (hgd : o.guard = none) (s x : Operand) (t : TypeId)
    (ho : o.op = .call { callee := .builtin .append, args := #[s, x], argTypes := #[t, t] })
    (base : Nat) (e : TypeId) (i : TypeInfo) (z : Value) (bytes : Nat) (ht : P.underlying t = some (.slice e)) (hi : P.info? e = some i) (hz : i.zero = some z)
    (hsize : i.size = size) (hby : i.bytes = bytes) (hzs : z.cells.size = size)
    (n : Nat) (xs : List Value) (hs : a.eval s = .slice A n n) (hsl : SlR w0 B size A n xs) (hbl : Below B w0 w)
    {w1 : World} {B1 : Nat} (m c : Nat) {A1 : Option Addr} (news : List Value) (hx : a.eval x = .slice A1 m c) (hsl1 : SlR w1 B1 size A1 m news) (hbl1 : Below B1 w1 w) (hm : 0 < m)
    (h63 : n + m ≤ maxLen) (hbytes : (n + m) * bytes ≤ 140737488355328) (hbase : base ≤ w.heap.size)
    (h : ∀ v' w', w'.ownsRow base e size v' (n + m) (xs ++ news) → w.grownBy w' none → K (a.put o.dst v') w') :
    if Region.wanted o (yielded ops a.tmps) = true then Oper.wp P o a w K Q else E := by
  have hw : Region.wanted o (yielded ops a.tmps) = true := by simp [Region.wanted, hgd]
  rw [if_pos hw]
  obtain ⟨v', w', hr, h2, h3⟩ := run_append_fresh (P := P) (w := w) base t o.type e i z bytes ht hi hz hsize hby hzs n xs hsl hbl (c := c) hsl1 hbl1 hm h63 hbytes hbase
  unfold Oper.wp execOp
  simp only [ho, resolve, invoke, builtin, Sem.run_bind, Sem.run_pure, Result.andThen_ok, List.map_toArray, List.map_cons, List.map_nil, hs, hx, hr]
  exact h v' w' h2 h3
end
end Go.Proofs.Ytncdombfhcfobaa
