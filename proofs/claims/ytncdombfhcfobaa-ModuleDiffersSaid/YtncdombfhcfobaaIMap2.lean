/- A map with integer keys that the call itself has made: what its block holds, entry by entry; look-up, store and a range over it. -/
import Derived.Test.YtncdombfhcfobaaBase
import Derived.Maps.RangeRun
import Derived.Maps.OwnOps
import Derived.RangeFuncRecord
import Derived.Maps.OwnSet
namespace Go.Proofs.Ytncdombfhcfobaa
open Go.RowKit

def kvOf (e : MapEntry) : Value × Value := (e.key, e.val)
def kvIn (p : Int × Value) : Value × Value := (.int .i64 p.1, p.2)
/-- Block b of w is a map with just these entries, in the order in which they came in. -/
def IM (w : World) (b : Nat) (L : List (Int × Value)) : Prop :=
  ∃ es clock, w.heap[b]? = some (.map es clock) ∧ es.toList.map kvOf = L.map kvIn ∧ (L.map (·.1)).Nodup ∧ (es.toList.map (·.born)).Nodup ∧ ∀ e ∈ es.toList, e.born < clock

def putL (k : Int) (v : Value) : List (Int × Value) → List (Int × Value)
  | [] => [(k, v)]
  | p :: l => if p.1 = k then (k, v) :: l else p :: putL k v l

theorem lookup_putL (k : Int) (v : Value) (j : Int) : ∀ L, (putL k v L).lookup j = if j = k then some v else L.lookup j
  | [] => by
    by_cases h : j = k
    · subst h; simp [putL]
    · simp [putL, List.lookup, h, beq_eq_false_iff_ne.2 h]
  | p :: L => by
    obtain ⟨a, b⟩ := p
    by_cases ha : a = k
    · subst ha
      simp only [putL, if_true, List.lookup]
      by_cases h : j = a
      · subst h; simp
      · simp [h, beq_eq_false_iff_ne.2 h]
    · have ih := lookup_putL k v j L
      simp only [putL, ha, if_false, List.lookup]
      by_cases h : j = a
      · subst h; simp [ha]
      · simp [beq_eq_false_iff_ne.2 h, ih]

theorem keys_putL (k : Int) (v : Value) : ∀ L, ((putL k v L).map (·.1)) = if k ∈ L.map (·.1) then L.map (·.1) else L.map (·.1) ++ [k]
  | [] => by simp [putL]
  | p :: L => by
    obtain ⟨a, b⟩ := p
    by_cases ha : a = k
    · subst ha; simp [putL]
    · have ih := keys_putL k v L
      have hka : ¬ k = a := fun e => ha e.symm
      by_cases hm : k ∈ L.map (·.1)
      · rw [if_pos hm] at ih
        simp only [putL, ha, if_false, List.map_cons, ih, List.mem_cons, hka, false_or, if_pos hm]
      · rw [if_neg hm] at ih
        simp only [putL, ha, if_false, List.map_cons, ih, List.mem_cons, hka, false_or, if_neg hm, List.cons_append]

theorem nodup_putL (k : Int) (v : Value) (L : List (Int × Value)) (h : (L.map (·.1)).Nodup) : ((putL k v L).map (·.1)).Nodup := by
  rw [keys_putL]
  split
  · exact h
  · rename_i hm
    rw [List.nodup_append]
    exact ⟨h, by simp, fun a ha b hb e => hm (by simp at hb; subst hb; subst e; exact ha)⟩

section
variable {w w' : World} {b : Nat} {L : List (Int × Value)}
theorem IM.lt (h : IM w b L) : b < w.heap.size := by
  obtain ⟨es, clock, hb, _⟩ := h
  exact (Array.getElem?_eq_some_iff.1 hb).1
theorem IM.same (h : IM w b L) (hk : w'.heap[b]? = w.heap[b]?) : IM w' b L := by
  obtain ⟨es, clock, hb, r⟩ := h
  exact ⟨es, clock, hk.trans hb, r⟩
theorem IM.alloc (h : IM w b L) (o : Obj) : IM (w.alloc o) b L := h.same (Below.heap_alloc w o b h.lt)
theorem IM.drew (h : IM w b L) : IM w.drew b L := h
theorem IM.drewN (h : IM w b L) (n : Nat) : IM (w.drewN n) b L := h
theorem IM.below {B : Nat} (h : IM w b L) (hb : Below B w w') (hB : b < B) : IM w' b L := h.same (hb.block b hB)
theorem IM.setCell (h : IM w b L) (a : Addr) (u : Value) : IM (w.setCell a u) b L := by
  obtain ⟨es, clock, hb, r⟩ := h
  refine ⟨es, clock, ?_, r⟩
  simp only [World.setCell, Array.getElem?_modify, hb]
  split <;> rfl
theorem IM.grown {row : Option Nat} (h : IM w b L) (hg : w.grownBy w' row) (hr : row ≠ some b) : IM w' b L := h.same (hg.block b h.lt (fun e => hr e.symm))
theorem IM.new (w : World) : IM (w.alloc (.map #[] 0)) w.heap.size [] :=
  ⟨#[], 0, heap_alloc_new w _, rfl, by simp, by simp, by simp⟩
end

theorem findNow_kv (k : Int) : ∀ (l : List MapEntry) (L : List (Int × Value)) (i : Nat), l.map kvOf = L.map kvIn →
    Instr.findNow (.int .i64) (.int .i64 k) l i = some (((L.map (·.1)).idxOf? k).bind fun j => (L.lookup k).map fun v => (i + j, v))
  | [], [], i, _ => rfl
  | [], _ :: _, _, h => by simp at h
  | _ :: _, [], _, h => by simp at h
  | e :: l, p :: L, i, h => by
    simp only [List.map_cons, List.cons.injEq] at h
    obtain ⟨h1, h2⟩ := h
    obtain ⟨a, v⟩ := p
    simp only [kvOf, kvIn, Prod.mk.injEq] at h1
    obtain ⟨hk, hv⟩ := h1
    have ih := findNow_kv k l L (i + 1) h2
    unfold Instr.findNow
    rw [hk, hv]
    simp only [Instr.sameNow, if_true]
    by_cases hka : k = a
    · subst hka
      simp [List.idxOf?_cons, List.lookup]
    · have hak : ¬ a = k := fun e => hka e.symm
      simp only [beq_eq_false_iff_ne.2 hka, ih, List.map_cons, List.idxOf?_cons, beq_eq_false_iff_ne.2 hak, List.lookup]
      cases (L.map (·.1)).idxOf? k with
      | none => simp
      | some j => simp [Nat.add_assoc, Nat.add_comm 1 j]

section
variable {P : Program} {w : World} {b : Nat} {L : List (Int × Value)}
theorem lookup_isSome_iff (k : Int) : ∀ L : List (Int × Value), (L.lookup k).isSome = ((L.map (·.1)).idxOf? k).isSome
  | [] => by simp
  | (a, v) :: L => by
    by_cases hka : k = a
    · subst hka; simp [List.idxOf?_cons, List.lookup]
    · have hak : ¬ a = k := fun e => hka e.symm
      simp [List.idxOf?_cons, List.lookup, beq_eq_false_iff_ne.2 hka, beq_eq_false_iff_ne.2 hak, lookup_isSome_iff k L]

theorem lookup_none_iff (k : Int) (L : List (Int × Value)) : L.lookup k = none ↔ k ∉ L.map (·.1) := by
  have h := lookup_isSome_iff k L
  constructor
  · intro hn hm
    rw [hn] at h
    have : ((L.map (·.1)).idxOf? k) = none := by simpa using h.symm
    rw [List.idxOf?_eq_none_iff] at this
    exact this hm
  · intro hm
    have : ((L.map (·.1)).idxOf? k) = none := List.idxOf?_eq_none_iff.2 hm
    rw [this] at h
    simpa using h

/-- 'm[k]', with or without 'ok' -/
theorem IM.run_lookup (h : IM w b L) {t kt e : TypeId} {z : Value} (ht : P.underlying t = some (.map kt e)) (hkt : P.underlying kt = some (.int .i64)) (hz : (zeroValue e).run P w = .ok z w) (k : Int) (ok : Bool) :
    (Instr.lookup t (.map (some b)) (.int .i64 k) ok).run P w = .ok (if ok then .tuple #[(L.lookup k).getD z, .bool (L.lookup k).isSome] else (L.lookup k).getD z) w := by
  obtain ⟨es, clock, hb, hkv, hnd, _, _⟩ := h
  have hf := findNow_kv k es.toList L 0 hkv
  have hs := lookup_isSome_iff k L
  have hck : ∀ x, (Instr.checkKey x 10000 kt (.int .i64 k)).run P w = .ok () w := fun x => by
    unfold Instr.checkKey
    simp [run_underlying hkt]
  simp only [Instr.lookup, Sem.run_bind, run_underlying ht, Result.andThen_ok, getObj]
  simp only [Sem.run, hb, Result.andThen_ok]
  have hfk : (Instr.findKey kt (.int .i64 k) es.toList).run P w = .ok (((L.map (·.1)).idxOf? k).bind fun j => (L.lookup k).map fun v => (0 + j, v)) w := by
    unfold Instr.findKey
    simp only [Sem.run_bind, run_underlying hkt, Result.andThen_ok, hf, Sem.run_pure]
  cases hl : L.lookup k with
  | none =>
    have hi : (L.map (·.1)).idxOf? k = none := by rw [hl] at hs; simpa using hs.symm
    rw [hi] at hfk
    simp only [Option.bind_none] at hfk
    have := hck es.isEmpty
    cases ok <;> simp_all [Sem.run_bind, Result.andThen_ok]
  | some v =>
    have hi : ((L.map (·.1)).idxOf? k).isSome = true := by rw [← hs, hl]; rfl
    obtain ⟨j, hj⟩ := Option.isSome_iff_exists.1 hi
    rw [hj, hl] at hfk
    simp only [Option.bind_some, Option.map_some] at hfk
    have := hck es.isEmpty
    cases ok <;> simp_all [Sem.run_bind, Result.andThen_ok]

theorem putL_kv_old (k : Int) (v : Value) (es : List MapEntry) : ∀ (l : List MapEntry) (L : List (Int × Value)) (j : Nat), l.map kvOf = L.map kvIn → (L.map (·.1)).idxOf? k = some j →
    (l.modify j fun e => { e with key := .int .i64 k, val := v }).map kvOf = (putL k v L).map kvIn
  | [], [], _, _, h => by simp at h
  | [], _ :: _, _, h, _ => by simp at h
  | _ :: _, [], _, h, _ => by simp at h
  | e :: l, (a, u) :: L, j, h, hj => by
    simp only [List.map_cons, List.cons.injEq] at h
    obtain ⟨h1, h2⟩ := h
    by_cases hak : a = k
    · subst hak
      simp [List.idxOf?_cons] at hj
      subst hj
      simp [putL, kvOf, kvIn, h2]
    · simp only [List.map_cons, List.idxOf?_cons, beq_eq_false_iff_ne.2 hak] at hj
      cases hq : (L.map (·.1)).idxOf? k with
      | none => simp [hq] at hj
      | some q =>
        simp [hq] at hj
        subst hj
        have ih := putL_kv_old k v es l L q h2 hq
        simp only [putL, hak, if_false, List.modify_succ_cons, List.map_cons, h1, ih]
theorem putL_new (k : Int) (v : Value) : ∀ (L : List (Int × Value)), k ∉ L.map (·.1) → putL k v L = L ++ [(k, v)]
  | [], _ => rfl
  | (a, u) :: L, h => by
    simp only [List.map_cons, List.mem_cons, not_or] at h
    have hak : ¬ a = k := fun e => h.1 e.symm
    simp only [putL, hak, if_false, putL_new k v L h.2, List.cons_append]

theorem born_modify (f : MapEntry → MapEntry) (hf : ∀ e, (f e).born = e.born) : ∀ (l : List MapEntry) (j : Nat), (l.modify j f).map (·.born) = l.map (·.born)
  | [], j => by simp
  | e :: l, 0 => by simp [hf]
  | e :: l, j + 1 => by simp [born_modify f hf l j]

theorem findKey_kv {es : List MapEntry} {L : List (Int × Value)} {kt : TypeId} (hkt : P.underlying kt = some (.int .i64)) (hkv : es.map kvOf = L.map kvIn) (k : Int) :
    (Instr.findKey kt (.int .i64 k) es).run P w = .ok (((L.map (·.1)).idxOf? k).bind fun j => (L.lookup k).map fun v => (0 + j, v)) w := by
  unfold Instr.findKey
  simp only [Sem.run_bind, run_underlying hkt, Result.andThen_ok, findNow_kv k es L 0 hkv, Sem.run_pure]

/-- 'm[k] = v' -/
theorem IM.run_update (h : IM w b L) {t kt e : TypeId} (ht : P.underlying t = some (.map kt e)) (hkt : P.underlying kt = some (.int .i64)) (k : Int) (v : Value) :
    ∃ w', (Instr.mapUpdate t (.map (some b)) (.int .i64 k) v).run P w = .ok () w' ∧ IM w' b (putL k v L) ∧ w.grownBy w' (some b) ∧ w'.heap.size = w.heap.size := by
  obtain ⟨es, clock, hb, hkv, hnd, hbn, hbc⟩ := h
  have hlt := (Array.getElem?_eq_some_iff.1 hb).1
  have hs := lookup_isSome_iff k L
  have hck : (Instr.checkKey false 10000 kt (.int .i64 k)).run P w = .ok () w := by
    unfold Instr.checkKey
    simp [run_underlying hkt]
  have hfk := findKey_kv (w := w) hkt hkv k
  have hset : ∀ (W : World) (o : Obj), W.heap[b]? = some (.map es clock) → (setObj b o).run P W = .ok () (W.putObj b o) := fun W o hW => MapKept.run_setObj_map o hW
  have hput : ∀ (o : Obj), w.grownBy (w.putObj b o) (some b) := fun o => ⟨rfl, rfl, rfl, by simp [World.putObj], fun j _ hj => World.putObj_heap_other (by rintro rfl; exact hj rfl)⟩
  simp only [Instr.mapUpdate, Sem.run_bind, run_underlying ht, Result.andThen_ok, MapKept.run_getObj_map hb, hck]
  cases hl : L.lookup k with
  | none =>
    have hi : (L.map (·.1)).idxOf? k = none := by rw [hl] at hs; simpa using hs.symm
    have hm : k ∉ L.map (·.1) := List.idxOf?_eq_none_iff.1 hi
    rw [hi] at hfk
    simp only [Option.bind_none] at hfk
    simp only [hfk, Result.andThen_ok, hset w _ hb]
    refine ⟨_, rfl, ⟨_, _, World.putObj_heap_same hlt, ?_, nodup_putL k v L hnd, ?_, ?_⟩, hput _, by simp [World.putObj]⟩
    · rw [putL_new k v L hm]
      simp [hkv, kvOf, kvIn]
    · rw [Array.toList_push, List.map_append, List.nodup_append]
      refine ⟨hbn, by simp, fun a ha c hc e => ?_⟩
      simp only [List.map_cons, List.map_nil, List.mem_singleton] at hc
      obtain ⟨x, hx, rfl⟩ := List.mem_map.1 ha
      have := hbc x hx
      omega
    · intro x hx
      rw [Array.toList_push, List.mem_append] at hx
      rcases hx with hx | hx
      · have := hbc x hx; omega
      · simp at hx; subst hx; simp
  | some u =>
    have hi : ((L.map (·.1)).idxOf? k).isSome = true := by rw [← hs, hl]; rfl
    obtain ⟨j, hj⟩ := Option.isSome_iff_exists.1 hi
    rw [hj, hl] at hfk
    simp only [Option.bind_some, Option.map_some, Nat.zero_add] at hfk
    have hjl : j < L.length := by
      have := List.idxOf?_eq_some_iff.1 hj
      obtain ⟨h1, _⟩ := this
      simpa using h1
    have hlen : es.toList.length = L.length := by simpa using congrArg List.length hkv
    have hkey : (es[j]?).map (·.key) = some (.int .i64 k) := by
      have h1 : (es.toList.map kvOf)[j]? = (L.map kvIn)[j]? := by rw [hkv]
      obtain ⟨h2, h3, _⟩ := List.idxOf?_eq_some_iff.1 hj
      have h4 : j < es.toList.length := by omega
      rw [List.getElem?_map, List.getElem?_map, List.getElem?_eq_getElem h4, List.getElem?_eq_getElem hjl] at h1
      simp only [Option.map_some, Option.some.injEq, kvOf, kvIn, Prod.mk.injEq] at h1
      have h5 : (es.toList[j]).key = .int .i64 k := by
        rw [h1.1]
        simp only [List.getElem_map] at h3
        rw [h3]
      have h6 : j < es.size := by simpa using h4
      rw [Array.getElem?_eq_getElem h6]
      simpa using h5
    have hstay : (Instr.keyThatStays (((es[j]?).map (·.key)).getD (.int .i64 k)) (.int .i64 k)).run P w = .ok (.int .i64 k) w := by
      rw [hkey]
      simp [Instr.keyThatStays, Instr.sameBits]
    simp only [hfk, Result.andThen_ok, Sem.run_bind, hstay, hset w _ hb]
    refine ⟨_, rfl, ⟨_, _, World.putObj_heap_same hlt, ?_, nodup_putL k v L hnd, ?_, ?_⟩, hput _, by simp [World.putObj]⟩
    · rw [Array.toList_modify]
      exact putL_kv_old k v [] es.toList L j hkv hj
    · rw [Array.toList_modify, born_modify (fun e => { e with key := .int .i64 k, val := v }) (fun _ => rfl)]
      exact hbn
    · intro x hx
      rw [Array.toList_modify] at hx
      have h1 : x.born ∈ (es.toList.modify j fun e => { e with key := .int .i64 k, val := v }).map (·.born) := List.mem_map_of_mem hx
      rw [born_modify (fun e => { e with key := .int .i64 k, val := v }) (fun _ => rfl)] at h1
      obtain ⟨y, hy, hyx⟩ := List.mem_map.1 h1
      have := hbc y hy
      omega
end

section
variable {P : Program} {w : World} {ops : Array Oper} {rest : List Oper} {o : Oper} {a : Act} {Q : Exit → Act → World → Prop} {b : Nat} {L : List (Int × Value)}
theorem wpList_lookup_im (hg : o.guard = none) (m x : Operand) (t : TypeId) (ok : Bool) (hop : o.op = Op.lookup t m x ok)
    (kt e : TypeId) (z : Value) (ht : P.underlying t = some (.map kt e)) (hkt : P.underlying kt = some (.int .i64)) (hz : (zeroValue e).run P w = .ok z w)
    (hm : a.eval m = .map (some b)) (h : IM w b L) (k : Int) (hx : a.eval x = .int .i64 k) (v : Value)
    (hv : (if ok then .tuple #[(L.lookup k).getD z, .bool (L.lookup k).isSome] else (L.lookup k).getD z) = v)
    (hK : wpList P ops Q rest (a.put o.dst v) w) : wpList P ops Q (o :: rest) a w := by
  refine wpList_plain hg fun K' hK' => ?_
  have hrun := h.run_lookup ht hkt hz k ok
  rw [hv] at hrun
  unfold Oper.wp
  simp [execOp, hop, hm, hx, hrun, Result.andThen]
  exact hK' _ _ hK
theorem wpList_mapUpdate_im (hg : o.guard = none) (m x y : Operand) (t : TypeId) (hop : o.op = Op.mapUpdate t m x y ∨ o.op = Op.insert t m x y)
    (kt e : TypeId) (ht : P.underlying t = some (.map kt e)) (hkt : P.underlying kt = some (.int .i64))
    (hm : a.eval m = .map (some b)) (h : IM w b L) (k : Int) (hx : a.eval x = .int .i64 k) (v : Value) (hv : a.eval y = v)
    (hK : ∀ w', IM w' b (putL k v L) → w.grownBy w' (some b) → w'.heap.size = w.heap.size → wpList P ops Q rest (a.put o.dst undef) w') : wpList P ops Q (o :: rest) a w := by
  refine wpList_plain hg fun K' hK' => ?_
  obtain ⟨w', hrun, r1, r2, r3⟩ := h.run_update ht hkt k v
  unfold Oper.wp
  rcases hop with hop | hop <;> simp [execOp, hop, hm, hx, hv, hrun, Result.andThen]
  all_goals exact hK' _ _ (hK w' r1 r2 r3)
end

/-! ### a range over such a map -/
/-- Iterator block r walks over the map in block b; the entries F are still to come (no entry comes in meanwhile). -/
def IRg (w : World) (r b : Nat) (L F : List (Int × Value)) : Prop :=
  ∃ es clock seen c0, w.heap[r]? = some (.mapIter (some b) clock seen c0) ∧ clock ≤ c0 ∧ w.heap[b]? = some (.map es clock) ∧ es.toList.map kvOf = L.map kvIn ∧ (es.toList.map (·.born)).Nodup ∧ (∀ e ∈ es.toList, e.born < clock) ∧
    ((leftOf es seen).toList.map kvOf) = F.map kvIn

section
variable {w w' : World} {r b : Nat} {L F : List (Int × Value)}
theorem IRg.lt (h : IRg w r b L F) : r < w.heap.size ∧ b < w.heap.size := by
  obtain ⟨es, clock, seen, c0, hr, _, hb, _⟩ := h
  exact ⟨(Array.getElem?_eq_some_iff.1 hr).1, (Array.getElem?_eq_some_iff.1 hb).1⟩
theorem IRg.same (h : IRg w r b L F) (h1 : w'.heap[r]? = w.heap[r]?) (h2 : w'.heap[b]? = w.heap[b]?) : IRg w' r b L F := by
  obtain ⟨es, clock, seen, c0, hr, hc, hb, rest⟩ := h
  exact ⟨es, clock, seen, c0, h1.trans hr, hc, h2.trans hb, rest⟩
theorem IRg.alloc (h : IRg w r b L F) (o : Obj) : IRg (w.alloc o) r b L F := h.same (Below.heap_alloc w o r h.lt.1) (Below.heap_alloc w o b h.lt.2)
theorem IRg.drew (h : IRg w r b L F) : IRg w.drew r b L F := h
theorem IRg.drewN (h : IRg w r b L F) (n : Nat) : IRg (w.drewN n) r b L F := h
theorem IRg.setCell (h : IRg w r b L F) (p : Addr) (u : Value) : IRg (w.setCell p u) r b L F := by
  obtain ⟨es, clock, seen, c0, hr, hc, hb, rest⟩ := h
  refine ⟨es, clock, seen, c0, ?_, hc, ?_, rest⟩
  · simp only [World.setCell, Array.getElem?_modify, hr]
    split <;> rfl
  · simp only [World.setCell, Array.getElem?_modify, hb]
    split <;> rfl
theorem IRg.map (h : IRg w r b L F) (hn : (L.map (·.1)).Nodup) : IM w b L := by
  obtain ⟨es, clock, seen, c0, hr, hc, hb, hkv, hbn, hbc, _⟩ := h
  exact ⟨es, clock, hb, hkv, hn, hbn, hbc⟩
end
section
variable {P : Program} {w : World} {ops : Array Oper} {rest : List Oper} {o : Oper} {a : Act} {Q : Exit → Act → World → Prop} {b : Nat} {L : List (Int × Value)}
theorem wpList_range_im (hg : o.guard = none) (m : Operand) (t : TypeId) (hop : o.op = Op.range t m) (kt e : TypeId) (ht : P.underlying t = some (.map kt e))
    (hm : a.eval m = .map (some b)) (h : IM w b L)
    (hK : ∀ w', IRg w' w.heap.size b L L → w.grownBy w' none → w'.heap.size = w.heap.size + 1 → wpList P ops Q rest (a.put o.dst (.pointer (some ⟨w.heap.size, 0, none⟩))) w') : wpList P ops Q (o :: rest) a w := by
  refine wpList_plain hg fun K' hK' => ?_
  obtain ⟨es, clock, hb, hkv, hnd, hbn, hbc⟩ := h
  have hlt := (Array.getElem?_eq_some_iff.1 hb).1
  have hrun : (Instr.range t (.map (some b))).run P w = .ok (.pointer (some ⟨w.heap.size, 0, none⟩)) (w.alloc (.mapIter (some b) clock #[] clock)) := by
    simp only [Instr.range, Sem.run_bind, run_underlying ht, Result.andThen_ok, MapKept.run_getObj_map hb]
    rfl
  unfold Oper.wp
  simp [execOp, hop, hm, hrun, Result.andThen]
  refine hK' _ _ (hK _ ⟨es, clock, #[], clock, heap_alloc_new w _, Nat.le_refl _, (Below.heap_alloc w _ b hlt).trans hb, hkv, hbn, hbc, ?_⟩ (World.grownBy_alloc w _ none) (by simp))
  have : leftOf es #[] = es := by unfold leftOf; exact Array.filter_eq_self.2 (fun x _ => by simp)
  rw [this]
  exact hkv

def decKV (e : MapEntry) : Int × Value := (intOf e.key, e.val)
theorem kvIn_inj : ∀ {F G : List (Int × Value)}, F.map kvIn = G.map kvIn → F = G
  | [], [], _ => rfl
  | [], _ :: _, h => by simp at h
  | _ :: _, [], h => by simp at h
  | (a, u) :: F, (c, v) :: G, h => by
    simp only [List.map_cons, List.cons.injEq, kvIn, Prod.mk.injEq, Value.int.injEq, true_and] at h
    obtain ⟨⟨rfl, rfl⟩, h2⟩ := h
    rw [kvIn_inj h2]
theorem kv_dec : ∀ {es : List MapEntry} {L : List (Int × Value)}, es.map kvOf = L.map kvIn → L = es.map decKV ∧ ∀ e ∈ es, kvOf e = kvIn (decKV e)
  | [], [], _ => ⟨rfl, by simp⟩
  | [], _ :: _, h => by simp at h
  | _ :: _, [], h => by simp at h
  | e :: es, (a, u) :: L, h => by
    simp only [List.map_cons, List.cons.injEq] at h
    obtain ⟨h1, h2⟩ := h
    have h3 : decKV e = (a, u) := by
      simp only [kvOf, kvIn, Prod.mk.injEq] at h1
      simp [decKV, h1.1, h1.2, intOf]
    obtain ⟨i1, i2⟩ := kv_dec h2
    refine ⟨by rw [List.map_cons, h3, ← i1], fun x hx => ?_⟩
    rcases List.mem_cons.1 hx with rfl | hx
    · rw [h3]; exact h1
    · exact i2 x hx
theorem perm_born (e : MapEntry) : ∀ (l : List MapEntry), (l.map (·.born)).Nodup → e ∈ l → l.Perm (e :: l.filter fun x => x.born != e.born)
  | [], _, h => by simp at h
  | x :: l, hn, h => by
    simp only [List.map_cons, List.nodup_cons] at hn
    rcases List.mem_cons.1 h with rfl | h
    · have : (e :: l).filter (fun x => x.born != e.born) = l := by
        rw [List.filter_cons_of_neg (by simp)]
        exact List.filter_eq_self.2 fun y hy => by
          have : y.born ≠ e.born := fun hh => hn.1 (by rw [← hh]; exact List.mem_map_of_mem hy)
          simpa using this
      rw [this]
    · have hxe : x.born ≠ e.born := fun hh => hn.1 (by rw [hh]; exact List.mem_map_of_mem h)
      rw [List.filter_cons_of_pos (by simpa using hxe)]
      exact ((perm_born e l hn.2 h).cons x).trans (List.Perm.swap e x _)

theorem kv_mem {es : List MapEntry} {L : List (Int × Value)} (h : es.map kvOf = L.map kvIn) {e : MapEntry} (he : e ∈ es) : ∃ p ∈ L, e.key = .int .i64 p.1 ∧ e.val = p.2 := by
  have h1 : kvOf e ∈ es.map kvOf := List.mem_map_of_mem he
  rw [h] at h1
  obtain ⟨p, hp, hpe⟩ := List.mem_map.1 h1
  simp only [kvOf, kvIn, Prod.mk.injEq] at hpe
  exact ⟨p, hp, hpe.1.symm, hpe.2.symm⟩

/-- THE STEP: nothing is left; or some entry p of those to come, whichever the tape says. -/
theorem wpList_next_im {r : Nat} {F : List (Int × Value)} (hg : o.guard = none) (it : Operand) (hop : o.op = Op.next it false) (hit : a.eval it = .pointer (some ⟨r, 0, none⟩)) (h : IRg w r b L F)
    (hDone : F = [] → wpList P ops Q rest (a.put o.dst (.tuple #[.bool false])) w)
    (hMore : ∀ (p : Int × Value) (F' : List (Int × Value)) (w' : World), p ∈ L → F.Perm (p :: F') → IRg w' r b L F' → w.grownBy w' (some r) → w'.heap.size = w.heap.size →
      (Instr.entry (.pointer (some ⟨r, 0, none⟩))).run P w' = .ok (.tuple #[.int .i64 p.1, p.2]) w' → wpList P ops Q rest (a.put o.dst (.tuple #[.bool true, .int .i64 p.1, p.2])) w') : wpList P ops Q (o :: rest) a w := by
  refine wpList_plain hg fun K' hK' => ?_
  obtain ⟨es, clock, seen, c0, hr, hcc, hb, hkv, hbn, hbc, hF⟩ := h
  unfold Oper.wp
  rcases run_next_at (P := P) w o.type r b clock c0 seen es clock hr hb hbc hcc with ⟨h0, hrun⟩ | ⟨e, he, w1, hw1, hrun⟩
  · simp [execOp, hop, hit, hrun, Result.andThen]
    refine hK' _ _ (hDone ?_)
    have : (leftOf es seen).toList = [] := List.eq_nil_of_length_eq_zero (by simpa using h0)
    rw [this] at hF
    simpa using hF.symm
  · have hX : (leftOf es seen).toList = es.toList.filter (fun e => !seen.contains e.born) := by unfold leftOf; rw [Array.toList_filter]
    have hX' : (leftOf es (seen.push e.born)).toList = (leftOf es seen).toList.filter (fun x => x.born != e.born) := by
      rw [hX]
      unfold leftOf
      rw [Array.toList_filter, List.filter_filter]
      congr 1
      funext x
      rw [Bool.eq_iff_iff]
      simp
      constructor
      · rintro ⟨h1, h2⟩; exact ⟨h2, h1⟩
      · rintro ⟨h1, h2⟩; exact ⟨h2, h1⟩
    have hee : e ∈ es.toList := by rw [hX] at he; exact (List.mem_filter.1 he).1
    obtain ⟨hF1, hF2⟩ := kv_dec hF
    have hsub : ((leftOf es seen).toList.map (·.born)).Nodup := by
      rw [hX]
      exact (List.filter_sublist.map _).nodup hbn
    obtain ⟨hL1, hL2⟩ := kv_dec hkv
    have hde := hL2 e hee
    simp only [kvOf, kvIn, Prod.mk.injEq] at hde
    have hr1 : w1.heap[r]? = some (.mapIter (some b) clock seen c0) := by rcases hw1 with rfl | rfl <;> exact hr
    have hb1 : w1.heap[b]? = some (.map es clock) := by rcases hw1 with rfl | rfl <;> exact hb
    have hrl := (Array.getElem?_eq_some_iff.1 hr1).1
    have hrb : r ≠ b := by rintro rfl; rw [hr] at hb; cases hb
    have e1 : (ChangeMaps.setBlock w1 r (.mapIter (some b) clock (seen.push e.born) clock)).heap[r]? = some (.mapIter (some b) clock (seen.push e.born) clock) := by simp [ChangeMaps.setBlock, hrl]
    have e2 : (ChangeMaps.setBlock w1 r (.mapIter (some b) clock (seen.push e.born) clock)).heap[b]? = some (.map es clock) := by
      simp only [ChangeMaps.setBlock]
      rw [Array.getElem?_setIfInBounds_ne hrb]
      exact hb1
    have hsz : (ChangeMaps.setBlock w1 r (.mapIter (some b) clock (seen.push e.born) clock)).heap.size = w.heap.size := by
      rcases hw1 with rfl | rfl <;> simp [ChangeMaps.setBlock]
    have hgr : w.grownBy (ChangeMaps.setBlock w1 r (.mapIter (some b) clock (seen.push e.born) clock)) (some r) := by
      refine ⟨?_, ?_, ?_, by rw [hsz]; exact Nat.le_refl _, fun j _ hj => ?_⟩
      · rcases hw1 with rfl | rfl <;> rfl
      · rcases hw1 with rfl | rfl <;> rfl
      · rcases hw1 with rfl | rfl <;> rfl
      · have hjr : r ≠ j := by rintro rfl; exact hj rfl
        simp only [ChangeMaps.setBlock]
        rw [Array.getElem?_setIfInBounds_ne hjr]
        rcases hw1 with rfl | rfl <;> rfl
    have hent := run_entry_at (P := P) _ r b clock seen es clock e e1 e2 hee hbn
    simp [execOp, hop, hit, hrun, Result.andThen]
    rw [hde.1, hde.2]
    rw [hde.1, hde.2] at hent
    refine hK' _ _ (hMore (decKV e) ((leftOf es (seen.push e.born)).toList.map decKV) _ (by rw [hL1]; exact List.mem_map_of_mem hee) ?_ ⟨es, clock, _, clock, e1, Nat.le_refl _, e2, hkv, hbn, hbc, ?_⟩ hgr hsz hent)
    · rw [hF1, hX']
      exact (perm_born e _ hsub he).map decKV
    · rw [List.map_map]
      refine List.map_congr_left fun x hx => ?_
      rw [hX'] at hx
      exact hF2 x (List.mem_filter.1 hx).1
end
end Go.Proofs.Ytncdombfhcfobaa
/- More on a map with integer keys that the call itself has made: delete, len. -/
namespace Go.Proofs.Ytncdombfhcfobaa
open Go.RowKit
def delL (k : Int) : List (Int × Value) → List (Int × Value)
  | [] => []
  | p :: l => if p.1 = k then l else p :: delL k l
theorem delL_sub (k : Int) : ∀ L, (delL k L).Sublist L
  | [] => List.Sublist.refl _
  | p :: L => by
    unfold delL
    split
    · exact List.sublist_cons_self _ _
    · exact (delL_sub k L).cons_cons p
theorem delL_none (k : Int) : ∀ L : List (Int × Value), k ∉ L.map (·.1) → delL k L = L
  | [], _ => rfl
  | p :: L, h => by
    simp only [List.map_cons, List.mem_cons, not_or] at h
    have hp : ¬ p.1 = k := fun e => h.1 e.symm
    simp only [delL, hp, if_false, delL_none k L h.2]
theorem delL_kv (k : Int) : ∀ (l : List MapEntry) (L : List (Int × Value)) (j : Nat), l.map kvOf = L.map kvIn → (L.map (·.1)).idxOf? k = some j → (l.eraseIdx j).map kvOf = (delL k L).map kvIn
  | [], [], _, _, h => by simp at h
  | [], _ :: _, _, h, _ => by simp at h
  | _ :: _, [], _, h, _ => by simp at h
  | e :: l, (a, u) :: L, j, h, hj => by
    simp only [List.map_cons, List.cons.injEq] at h
    obtain ⟨h1, h2⟩ := h
    by_cases hak : a = k
    · subst hak
      simp [List.idxOf?_cons] at hj
      subst hj
      simp [delL, h2]
    · simp only [List.map_cons, List.idxOf?_cons, beq_eq_false_iff_ne.2 hak] at hj
      cases hq : (L.map (·.1)).idxOf? k with
      | none => simp [hq] at hj
      | some q =>
        simp [hq] at hj
        subst hj
        have ih := delL_kv k l L q h2 hq
        simp only [delL, hak, if_false, List.eraseIdx_cons_succ, List.map_cons, h1, ih]
section
variable {P : Program} {w : World} {b : Nat} {L : List (Int × Value)}
/-- 'delete(m, k)' -/
theorem IM.run_delete (h : IM w b L) {t kt e : TypeId} (ht : P.underlying t = some (.map kt e)) (hkt : P.underlying kt = some (.int .i64)) (k : Int) (ty : TypeId) :
    ∃ w', (Builtin.delete_ #[t, kt] ty #[.map (some b), .int .i64 k]).run P w = .ok (.tuple #[]) w' ∧ IM w' b (delL k L) ∧ w.grownBy w' (some b) ∧ w'.heap.size = w.heap.size := by
  obtain ⟨es, clock, hb, hkv, hnd, hbn, hbc⟩ := h
  have hlt := (Array.getElem?_eq_some_iff.1 hb).1
  have hck : ∀ x, (Instr.checkKey x 10000 kt (.int .i64 k)).run P w = .ok () w := fun x => by
    unfold Instr.checkKey
    simp [run_underlying hkt]
  have hs := lookup_isSome_iff k L
  have hfk := findKey_kv (w := w) hkt hkv k
  have hset : ∀ (o : Obj), (setObj b o).run P w = .ok () (w.putObj b o) := fun o => MapKept.run_setObj_map o hb
  have hput : ∀ (o : Obj), w.grownBy (w.putObj b o) (some b) := fun o => ⟨rfl, rfl, rfl, by simp [World.putObj], fun j _ hj => World.putObj_heap_other (by rintro rfl; exact hj rfl)⟩
  have hnd' : ((delL k L).map (·.1)).Nodup := ((delL_sub k L).map _).nodup hnd
  cases hl : L.lookup k with
  | none =>
    have hi : (L.map (·.1)).idxOf? k = none := by rw [hl] at hs; simpa using hs.symm
    have hm : k ∉ L.map (·.1) := List.idxOf?_eq_none_iff.1 hi
    rw [hi] at hfk
    simp only [Option.bind_none] at hfk
    refine ⟨_, by simp [Builtin.delete_, Sem.run_bind, run_underlying ht, Result.andThen_ok, MapKept.run_getObj_map hb, hck, hfk, hset], ⟨es, clock, World.putObj_heap_same hlt, ?_, hnd', hbn, hbc⟩, hput _, by simp [World.putObj]⟩
    rw [delL_none k L hm]; exact hkv
  | some u =>
    have hi : ((L.map (·.1)).idxOf? k).isSome = true := by rw [← hs, hl]; rfl
    obtain ⟨j, hj⟩ := Option.isSome_iff_exists.1 hi
    rw [hj, hl] at hfk
    simp only [Option.bind_some, Option.map_some, Nat.zero_add] at hfk
    refine ⟨_, by simp [Builtin.delete_, Sem.run_bind, run_underlying ht, Result.andThen_ok, MapKept.run_getObj_map hb, hck, hfk, hset]; rfl, ⟨_, clock, World.putObj_heap_same hlt, ?_, hnd', ?_, ?_⟩, hput _, by simp [World.putObj]⟩
    · rw [Array.toList_eraseIdxIfInBounds]
      exact delL_kv k es.toList L j hkv hj
    · rw [Array.toList_eraseIdxIfInBounds]
      exact ((List.eraseIdx_sublist _ _).map _).nodup hbn
    · intro x hx
      rw [Array.toList_eraseIdxIfInBounds] at hx
      exact hbc x ((List.eraseIdx_sublist _ _).subset hx)
end
section
variable {P : Program} {w : World} {ops : Array Oper} {rest : List Oper} {o : Oper} {a : Act} {Q : Exit → Act → World → Prop} {b : Nat} {L : List (Int × Value)}
theorem wpList_delete_im (hg : o.guard = none) (m x : Operand) (t kt : TypeId) (hop : o.op = Op.call { callee := Callee.builtin Builtin.delete, args := #[m, x], argTypes := #[t, kt] })
    (e : TypeId) (ht : P.underlying t = some (.map kt e)) (hkt : P.underlying kt = some (.int .i64))
    (hm : a.eval m = .map (some b)) (h : IM w b L) (k : Int) (hx : a.eval x = .int .i64 k)
    (hK : ∀ w', IM w' b (delL k L) → w.grownBy w' (some b) → w'.heap.size = w.heap.size → wpList P ops Q rest (a.put o.dst (.tuple #[])) w') : wpList P ops Q (o :: rest) a w := by
  refine wpList_plain hg fun K' hK' => ?_
  obtain ⟨w', hrun, r1, r2, r3⟩ := h.run_delete ht hkt k o.type
  unfold Oper.wp execOp
  simp only [hop, resolve, invoke, builtin, Sem.run_bind, Sem.run_pure, Result.andThen_ok, List.map_toArray, List.map_cons, List.map_nil, hm, hx, hrun]
  exact hK' _ _ (hK w' r1 r2 r3)
end
section
variable {P : Program} {w : World} {ops : Array Oper} {rest : List Oper} {o : Oper} {a : Act} {Q : Exit → Act → World → Prop} {b : Nat} {L : List (Int × Value)}
theorem IM.run_len (h : IM w b L) {t kt e : TypeId} (ht : P.underlying t = some (.map kt e)) (ty : TypeId) : (Builtin.len_ #[t] ty #[.map (some b)]).run P w = .ok (.int .i64 L.length) w := by
  obtain ⟨es, clock, hb, hkv, hnd, hbn, hbc⟩ := h
  have hlen : es.size = L.length := by have := congrArg List.length hkv; simpa using this
  simp [Builtin.len_, Sem.run_bind, run_underlying ht, Result.andThen_ok, MapKept.run_getObj_map hb, goInt, hlen]
theorem wpList_len_im (hg : o.guard = none) (m : Operand) (t : TypeId) (hop : o.op = Op.call { callee := Callee.builtin Builtin.len, args := #[m], argTypes := #[t] })
    (k e : TypeId) (ht : P.underlying t = some (.map k e)) (hm : a.eval m = .map (some b)) (h : IM w b L)
    (hK : wpList P ops Q rest (a.put o.dst (.int .i64 L.length)) w) : wpList P ops Q (o :: rest) a w := by
  refine wpList_plain hg fun K' hK' => ?_
  unfold Oper.wp
  simp [execOp, hop, resolve, invoke, builtin, hm, h.run_len ht o.type, Result.andThen]
  exact hK' _ _ hK
end
end Go.Proofs.Ytncdombfhcfobaa
