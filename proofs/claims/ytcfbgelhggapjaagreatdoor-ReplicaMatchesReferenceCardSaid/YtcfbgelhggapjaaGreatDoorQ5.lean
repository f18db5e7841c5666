/- A map with keys of two integers that the call itself has made: what its block holds, entry by entry; look-up, store and a range over it. -/
import Derived.Test.YtcfbgelhggapjaaGreatDoorQ1
import Derived.Maps.RangeRun
import Derived.Maps.OwnOps
import Derived.RangeFuncRecord
import Derived.Maps.OwnSet
import Derived.StillTail
import Derived.Test.YtcfbgelhggapjaaGreatDoorQ4
import Derived.BigRegion
import Derived.Deep.DeepCutAuto
import Derived.Sort.LotA
import Derived.Sort.Lot0
import Derived.Shelf.SlSortCmp.KitK
import Derived.Sort.WalkB2
import Derived.Sort.WalkB12
import Derived.Deep.LoopGhost
import Derived.Test.YtcfbgelhggapjaaGreatDoorProg
namespace Go.Proofs.YtcfbgelhggapjaaGreatDoor
open Go.RowKit

def kK (k : I2) : Value := .agg #[.int .i64 k.1, .int .i64 k.2]
theorem kK_inj {a b : I2} (h : kK a = kK b) : a = b := by
  obtain ⟨x, y⟩ := a
  obtain ⟨u, v⟩ := b
  simp only [kK, Value.agg.injEq] at h
  simpa using h
/-- what a map with such keys asks of its key type -/
structure KeyP (P : Program) (kt : TypeId) : Prop where
  und : ∃ fs, P.underlying kt = some (.struct fs)
  eq : ∀ a b w, (Op.equal kt (kK a) (kK b)).run P w = .ok (decide (a = b)) w
  chk : ∀ x a w, (Instr.checkKey x 10000 kt (kK a)).run P w = .ok () w
def kvOf (e : MapEntry) : Value × Value := (e.key, e.val)
def kvIn (p : I2 × Value) : Value × Value := (kK p.1, p.2)
/-- Block b of w is a map with just these entries, in the order in which they came in. -/
def IM (w : World) (b : Nat) (L : List (I2 × Value)) : Prop :=
  ∃ es clock, w.heap[b]? = some (.map es clock) ∧ es.toList.map kvOf = L.map kvIn ∧ (L.map (·.1)).Nodup ∧ (es.toList.map (·.born)).Nodup ∧ ∀ e ∈ es.toList, e.born < clock

def putK (k : I2) (v : Value) : List (I2 × Value) → List (I2 × Value)
  | [] => [(k, v)]
  | p :: l => if p.1 = k then (k, v) :: l else p :: putK k v l

theorem lookup_putK (k : I2) (v : Value) (j : I2) : ∀ L, (putK k v L).lookup j = if j = k then some v else L.lookup j
  | [] => by
    by_cases h : j = k
    · subst h; simp [putK]
    · simp [putK, List.lookup, h, beq_eq_false_iff_ne.2 h]
  | p :: L => by
    obtain ⟨a, b⟩ := p
    by_cases ha : a = k
    · subst ha
      simp only [putK, if_true, List.lookup]
      by_cases h : j = a
      · subst h; simp
      · simp [h, beq_eq_false_iff_ne.2 h]
    · have ih := lookup_putK k v j L
      simp only [putK, ha, if_false, List.lookup]
      by_cases h : j = a
      · subst h; simp [ha]
      · simp [beq_eq_false_iff_ne.2 h, ih]

theorem keys_putK (k : I2) (v : Value) : ∀ L, ((putK k v L).map (·.1)) = if k ∈ L.map (·.1) then L.map (·.1) else L.map (·.1) ++ [k]
  | [] => by simp [putK]
  | p :: L => by
    obtain ⟨a, b⟩ := p
    by_cases ha : a = k
    · subst ha; simp [putK]
    · have ih := keys_putK k v L
      have hka : ¬ k = a := fun e => ha e.symm
      by_cases hm : k ∈ L.map (·.1)
      · rw [if_pos hm] at ih
        simp only [putK, ha, if_false, List.map_cons, ih, List.mem_cons, hka, false_or, if_pos hm]
      · rw [if_neg hm] at ih
        simp only [putK, ha, if_false, List.map_cons, ih, List.mem_cons, hka, false_or, if_neg hm, List.cons_append]

theorem nodup_putK (k : I2) (v : Value) (L : List (I2 × Value)) (h : (L.map (·.1)).Nodup) : ((putK k v L).map (·.1)).Nodup := by
  rw [keys_putK]
  split
  · exact h
  · rename_i hm
    rw [List.nodup_append]
    exact ⟨h, by simp, fun a ha b hb e => hm (by simp at hb; subst hb; subst e; exact ha)⟩

section
variable {w w' : World} {b : Nat} {L : List (I2 × Value)}
theorem IM.lt (h : IM w b L) : b < w.heap.size := by
  obtain ⟨es, clock, hb, _⟩ := h
  exact (Array.getElem?_eq_some_iff.1 hb).1
theorem IM.same (h : IM w b L) (hk : w'.heap[b]? = w.heap[b]?) : IM w' b L := by
  obtain ⟨es, clock, hb, r⟩ := h
  exact ⟨es, clock, hk.trans hb, r⟩
theorem IM.alloc (h : IM w b L) (o : Obj) : IM (w.alloc o) b L := h.same (Below.heap_alloc w o b h.lt)
theorem IM.drew (h : IM w b L) : IM w.drew b L := h
theorem IM.drewN (h : IM w b L) (n : Nat) : IM (w.drewN n) b L := h
theorem IM.below {B : Nat} (h : IM w b L) (hb : Below B w w') (hB : b < B) : IM w' b L := h.same (hb.block b hB)
theorem IM.setCell (h : IM w b L) (a : Addr) (u : Value) : IM (w.setCell a u) b L := by
  obtain ⟨es, clock, hb, r⟩ := h
  refine ⟨es, clock, ?_, r⟩
  simp only [World.setCell, Array.getElem?_modify, hb]
  split <;> rfl
theorem IM.grown {row : Option Nat} (h : IM w b L) (hg : w.grownBy w' row) (hr : row ≠ some b) : IM w' b L := h.same (hg.block b h.lt (fun e => hr e.symm))
theorem IM.new (w : World) : IM (w.alloc (.map #[] 0)) w.heap.size [] :=
  ⟨#[], 0, heap_alloc_new w _, rfl, by simp, by simp, by simp⟩
end

theorem findAsking_kv {P : Program} {w : World} {kt : TypeId} (hkt : KeyP P kt) (k : I2) : ∀ (l : List MapEntry) (L : List (I2 × Value)) (i : Nat), l.map kvOf = L.map kvIn →
    (Instr.findAsking kt (kK k) l i).run P w = .ok (((L.map (·.1)).idxOf? k).bind fun j => (L.lookup k).map fun v => (i + j, v)) w
  | [], [], i, _ => rfl
  | [], _ :: _, _, h => by simp at h
  | _ :: _, [], _, h => by simp at h
  | e :: l, p :: L, i, h => by
    simp only [List.map_cons, List.cons.injEq] at h
    obtain ⟨h1, h2⟩ := h
    obtain ⟨a, v⟩ := p
    simp only [kvOf, kvIn, Prod.mk.injEq] at h1
    obtain ⟨hk, hv⟩ := h1
    have ih := findAsking_kv (w := w) hkt k l L (i + 1) h2
    unfold Instr.findAsking
    rw [hk, hv, Sem.run_bind, hkt.eq k a w]
    simp only [Result.andThen_ok]
    by_cases hka : k = a
    · subst hka
      simp [List.idxOf?_cons, List.lookup]
    · have hak : ¬ a = k := fun e => hka e.symm
      simp only [decide_eq_false hka, Bool.false_eq_true, if_false, ih, List.map_cons, List.idxOf?_cons, beq_eq_false_iff_ne.2 hak, List.lookup, beq_eq_false_iff_ne.2 hka]
      cases (L.map (·.1)).idxOf? k with
      | none => simp
      | some j => simp [Nat.add_assoc, Nat.add_comm 1 j]
theorem findNow_kv {fs : Array Field} (k : I2) (es : List MapEntry) (L : List (I2 × Value)) (h : es.map kvOf = L.map kvIn) :
    Instr.findNow (.struct fs) (kK k) es 0 = none ∨ (es = [] ∧ L = [] ∧ Instr.findNow (.struct fs) (kK k) es 0 = some none) := by
  match es, L, h with
  | [], [], _ => exact .inr ⟨rfl, rfl, rfl⟩
  | [], _ :: _, h => simp at h
  | _ :: _, [], h => simp at h
  | e :: es, p :: L, h => left; simp [Instr.findNow, Instr.sameNow]
theorem findKey_kv {P : Program} {w : World} {es : List MapEntry} {L : List (I2 × Value)} {kt : TypeId} (hkt : KeyP P kt) (hkv : es.map kvOf = L.map kvIn) (k : I2) :
    (Instr.findKey kt (kK k) es).run P w = .ok (((L.map (·.1)).idxOf? k).bind fun j => (L.lookup k).map fun v => (0 + j, v)) w := by
  obtain ⟨fs, hu⟩ := hkt.und
  unfold Instr.findKey
  rcases findNow_kv (fs := fs) k es L hkv with h | ⟨rfl, rfl, h⟩
  · simp only [Sem.run_bind, run_underlying hu, Result.andThen_ok, h]
    exact findAsking_kv hkt k es L 0 hkv
  · simp only [Sem.run_bind, run_underlying hu, Result.andThen_ok, h]
    rfl

section
variable {P : Program} {w : World} {b : Nat} {L : List (I2 × Value)}
theorem lookup_isSome_iff (k : I2) : ∀ L : List (I2 × Value), (L.lookup k).isSome = ((L.map (·.1)).idxOf? k).isSome
  | [] => by simp
  | (a, v) :: L => by
    by_cases hka : k = a
    · subst hka; simp [List.idxOf?_cons, List.lookup]
    · have hak : ¬ a = k := fun e => hka e.symm
      simp [List.idxOf?_cons, List.lookup, beq_eq_false_iff_ne.2 hka, beq_eq_false_iff_ne.2 hak, lookup_isSome_iff k L]

theorem lookup_none_iff (k : I2) (L : List (I2 × Value)) : L.lookup k = none ↔ k ∉ L.map (·.1) := by
  have h := lookup_isSome_iff k L
  constructor
  · intro hn hm
    rw [hn] at h
    have : ((L.map (·.1)).idxOf? k) = none := by simpa using h.symm
    rw [List.idxOf?_eq_none_iff] at this
    exact this hm
  · intro hm
    have : ((L.map (·.1)).idxOf? k) = none := List.idxOf?_eq_none_iff.2 hm
    rw [this] at h
    simpa using h

/-- 'm[k]', with or without 'ok' -/
theorem IM.run_lookup (h : IM w b L) {t kt e : TypeId} {z : Value} (ht : P.underlying t = some (.map kt e)) (hkt : KeyP P kt) (hz : (zeroValue e).run P w = .ok z w) (k : I2) (ok : Bool) :
    (Instr.lookup t (.map (some b)) (kK k) ok).run P w = .ok (if ok then .tuple #[(L.lookup k).getD z, .bool (L.lookup k).isSome] else (L.lookup k).getD z) w := by
  obtain ⟨es, clock, hb, hkv, hnd, _, _⟩ := h
  have hfk := findKey_kv (w := w) hkt hkv k
  have hs := lookup_isSome_iff k L
  have hck : ∀ x, (Instr.checkKey x 10000 kt (kK k)).run P w = .ok () w := fun x => hkt.chk x k w
  simp only [Instr.lookup, Sem.run_bind, run_underlying ht, Result.andThen_ok, getObj]
  simp only [Sem.run, hb, Result.andThen_ok]
  cases hl : L.lookup k with
  | none =>
    have hi : (L.map (·.1)).idxOf? k = none := by rw [hl] at hs; simpa using hs.symm
    rw [hi] at hfk
    simp only [Option.bind_none] at hfk
    have := hck es.isEmpty
    cases ok <;> simp_all [Sem.run_bind, Result.andThen_ok]
  | some v =>
    have hi : ((L.map (·.1)).idxOf? k).isSome = true := by rw [← hs, hl]; rfl
    obtain ⟨j, hj⟩ := Option.isSome_iff_exists.1 hi
    rw [hj, hl] at hfk
    simp only [Option.bind_some, Option.map_some] at hfk
    have := hck es.isEmpty
    cases ok <;> simp_all [Sem.run_bind, Result.andThen_ok]

theorem putK_kv_old (k : I2) (v : Value) (es : List MapEntry) : ∀ (l : List MapEntry) (L : List (I2 × Value)) (j : Nat), l.map kvOf = L.map kvIn → (L.map (·.1)).idxOf? k = some j →
    (l.modify j fun e => { e with key := kK k, val := v }).map kvOf = (putK k v L).map kvIn
  | [], [], _, _, h => by simp at h
  | [], _ :: _, _, h, _ => by simp at h
  | _ :: _, [], _, h, _ => by simp at h
  | e :: l, (a, u) :: L, j, h, hj => by
    simp only [List.map_cons, List.cons.injEq] at h
    obtain ⟨h1, h2⟩ := h
    by_cases hak : a = k
    · subst hak
      simp [List.idxOf?_cons] at hj
      subst hj
      simp [putK, kvOf, kvIn, h2]
    · simp only [List.map_cons, List.idxOf?_cons, beq_eq_false_iff_ne.2 hak] at hj
      cases hq : (L.map (·.1)).idxOf? k with
      | none => simp [hq] at hj
      | some q =>
        simp [hq] at hj
        subst hj
        have ih := putK_kv_old k v es l L q h2 hq
        simp only [putK, hak, if_false, List.modify_succ_cons, List.map_cons, h1, ih]
theorem putK_new (k : I2) (v : Value) : ∀ (L : List (I2 × Value)), k ∉ L.map (·.1) → putK k v L = L ++ [(k, v)]
  | [], _ => rfl
  | (a, u) :: L, h => by
    simp only [List.map_cons, List.mem_cons, not_or] at h
    have hak : ¬ a = k := fun e => h.1 e.symm
    simp only [putK, hak, if_false, putK_new k v L h.2, List.cons_append]

theorem born_modify (f : MapEntry → MapEntry) (hf : ∀ e, (f e).born = e.born) : ∀ (l : List MapEntry) (j : Nat), (l.modify j f).map (·.born) = l.map (·.born)
  | [], j => by simp
  | e :: l, 0 => by simp [hf]
  | e :: l, j + 1 => by simp [born_modify f hf l j]

/-- 'm[k] = v' -/
theorem IM.run_update (h : IM w b L) {t kt e : TypeId} (ht : P.underlying t = some (.map kt e)) (hkt : KeyP P kt) (k : I2) (v : Value) :
    ∃ w', (Instr.mapUpdate t (.map (some b)) (kK k) v).run P w = .ok () w' ∧ IM w' b (putK k v L) ∧ w.grownBy w' (some b) ∧ w'.heap.size = w.heap.size := by
  obtain ⟨es, clock, hb, hkv, hnd, hbn, hbc⟩ := h
  have hlt := (Array.getElem?_eq_some_iff.1 hb).1
  have hs := lookup_isSome_iff k L
  have hck : (Instr.checkKey false 10000 kt (kK k)).run P w = .ok () w := hkt.chk false k w
  have hfk := findKey_kv (w := w) hkt hkv k
  have hset : ∀ (W : World) (o : Obj), W.heap[b]? = some (.map es clock) → (setObj b o).run P W = .ok () (W.putObj b o) := fun W o hW => MapKept.run_setObj_map o hW
  have hput : ∀ (o : Obj), w.grownBy (w.putObj b o) (some b) := fun o => ⟨rfl, rfl, rfl, by simp [World.putObj], fun j _ hj => World.putObj_heap_other (by rintro rfl; exact hj rfl)⟩
  simp only [Instr.mapUpdate, Sem.run_bind, run_underlying ht, Result.andThen_ok, MapKept.run_getObj_map hb, hck]
  cases hl : L.lookup k with
  | none =>
    have hi : (L.map (·.1)).idxOf? k = none := by rw [hl] at hs; simpa using hs.symm
    have hm : k ∉ L.map (·.1) := List.idxOf?_eq_none_iff.1 hi
    rw [hi] at hfk
    simp only [Option.bind_none] at hfk
    simp only [hfk, Result.andThen_ok, hset w _ hb]
    refine ⟨_, rfl, ⟨_, _, World.putObj_heap_same hlt, ?_, nodup_putK k v L hnd, ?_, ?_⟩, hput _, by simp [World.putObj]⟩
    · rw [putK_new k v L hm]
      simp [hkv, kvOf, kvIn]
    · rw [Array.toList_push, List.map_append, List.nodup_append]
      refine ⟨hbn, by simp, fun a ha c hc e => ?_⟩
      simp only [List.map_cons, List.map_nil, List.mem_singleton] at hc
      obtain ⟨x, hx, rfl⟩ := List.mem_map.1 ha
      have := hbc x hx
      omega
    · intro x hx
      rw [Array.toList_push, List.mem_append] at hx
      rcases hx with hx | hx
      · have := hbc x hx; omega
      · simp at hx; subst hx; simp
  | some u =>
    have hi : ((L.map (·.1)).idxOf? k).isSome = true := by rw [← hs, hl]; rfl
    obtain ⟨j, hj⟩ := Option.isSome_iff_exists.1 hi
    rw [hj, hl] at hfk
    simp only [Option.bind_some, Option.map_some, Nat.zero_add] at hfk
    have hjl : j < L.length := by
      have := List.idxOf?_eq_some_iff.1 hj
      obtain ⟨h1, _⟩ := this
      simpa using h1
    have hlen : es.toList.length = L.length := by simpa using congrArg List.length hkv
    have hkey : (es[j]?).map (·.key) = some (kK k) := by
      have h1 : (es.toList.map kvOf)[j]? = (L.map kvIn)[j]? := by rw [hkv]
      obtain ⟨h2, h3, _⟩ := List.idxOf?_eq_some_iff.1 hj
      have h4 : j < es.toList.length := by omega
      rw [List.getElem?_map, List.getElem?_map, List.getElem?_eq_getElem h4, List.getElem?_eq_getElem hjl] at h1
      simp only [Option.map_some, Option.some.injEq, kvOf, kvIn, Prod.mk.injEq] at h1
      have h5 : (es.toList[j]).key = kK k := by
        rw [h1.1]
        simp only [List.getElem_map] at h3
        rw [h3]
      have h6 : j < es.size := by simpa using h4
      rw [Array.getElem?_eq_getElem h6]
      simpa using h5
    have hstay : (Instr.keyThatStays (((es[j]?).map (·.key)).getD (kK k)) (kK k)).run P w = .ok (kK k) w := by
      rw [hkey]
      simp [Instr.keyThatStays, Instr.sameBits, kK]
    simp only [hfk, Result.andThen_ok, Sem.run_bind, hstay, hset w _ hb]
    refine ⟨_, rfl, ⟨_, _, World.putObj_heap_same hlt, ?_, nodup_putK k v L hnd, ?_, ?_⟩, hput _, by simp [World.putObj]⟩
    · rw [Array.toList_modify]
      exact putK_kv_old k v [] es.toList L j hkv hj
    · rw [Array.toList_modify, born_modify (fun e => { e with key := kK k, val := v }) (fun _ => rfl)]
      exact hbn
    · intro x hx
      rw [Array.toList_modify] at hx
      have h1 : x.born ∈ (es.toList.modify j fun e => { e with key := kK k, val := v }).map (·.born) := List.mem_map_of_mem hx
      rw [born_modify (fun e => { e with key := kK k, val := v }) (fun _ => rfl)] at h1
      obtain ⟨y, hy, hyx⟩ := List.mem_map.1 h1
      have := hbc y hy
      omega
end

section
variable {P : Program} {w : World} {ops : Array Oper} {rest : List Oper} {o : Oper} {a : Act} {Q : Exit → Act → World → Prop} {b : Nat} {L : List (I2 × Value)}
theorem wpList_lookup_im (hg : o.guard = none) (m x : Operand) (t : TypeId) (ok : Bool) (hop : o.op = Op.lookup t m x ok)
    (kt e : TypeId) (z : Value) (ht : P.underlying t = some (.map kt e)) (hkt : KeyP P kt) (hz : (zeroValue e).run P w = .ok z w)
    (hm : a.eval m = .map (some b)) (h : IM w b L) (k : I2) (hx : a.eval x = kK k) (v : Value)
    (hv : (if ok then .tuple #[(L.lookup k).getD z, .bool (L.lookup k).isSome] else (L.lookup k).getD z) = v)
    (hK : wpList P ops Q rest (a.put o.dst v) w) : wpList P ops Q (o :: rest) a w := by
  refine wpList_plain hg fun K' hK' => ?_
  have hrun := h.run_lookup ht hkt hz k ok
  rw [hv] at hrun
  unfold Oper.wp
  simp [execOp, hop, hm, hx, hrun, Result.andThen]
  exact hK' _ _ hK
theorem wpList_mapUpdate_im (hg : o.guard = none) (m x y : Operand) (t : TypeId) (hop : o.op = Op.mapUpdate t m x y ∨ o.op = Op.insert t m x y)
    (kt e : TypeId) (ht : P.underlying t = some (.map kt e)) (hkt : KeyP P kt)
    (hm : a.eval m = .map (some b)) (h : IM w b L) (k : I2) (hx : a.eval x = kK k) (v : Value) (hv : a.eval y = v)
    (hK : ∀ w', IM w' b (putK k v L) → w.grownBy w' (some b) → w'.heap.size = w.heap.size → wpList P ops Q rest (a.put o.dst undef) w') : wpList P ops Q (o :: rest) a w := by
  refine wpList_plain hg fun K' hK' => ?_
  obtain ⟨w', hrun, r1, r2, r3⟩ := h.run_update ht hkt k v
  unfold Oper.wp
  rcases hop with hop | hop <;> simp [execOp, hop, hm, hx, hv, hrun, Result.andThen]
  all_goals exact hK' _ _ (hK w' r1 r2 r3)
end

/-! ### a range over such a map -/
/-- Iterator block r walks over the map in block b; the entries F are still to come (no entry comes in meanwhile). -/
def IRg (w : World) (r b : Nat) (L F : List (I2 × Value)) : Prop :=
  ∃ es clock seen c0, w.heap[r]? = some (.mapIter (some b) clock seen c0) ∧ clock ≤ c0 ∧ w.heap[b]? = some (.map es clock) ∧ es.toList.map kvOf = L.map kvIn ∧ (es.toList.map (·.born)).Nodup ∧ (∀ e ∈ es.toList, e.born < clock) ∧
    ((leftOf es seen).toList.map kvOf) = F.map kvIn

section
variable {w w' : World} {r b : Nat} {L F : List (I2 × Value)}
theorem IRg.lt (h : IRg w r b L F) : r < w.heap.size ∧ b < w.heap.size := by
  obtain ⟨es, clock, seen, c0, hr, _, hb, _⟩ := h
  exact ⟨(Array.getElem?_eq_some_iff.1 hr).1, (Array.getElem?_eq_some_iff.1 hb).1⟩
theorem IRg.same (h : IRg w r b L F) (h1 : w'.heap[r]? = w.heap[r]?) (h2 : w'.heap[b]? = w.heap[b]?) : IRg w' r b L F := by
  obtain ⟨es, clock, seen, c0, hr, hc, hb, rest⟩ := h
  exact ⟨es, clock, seen, c0, h1.trans hr, hc, h2.trans hb, rest⟩
theorem IRg.alloc (h : IRg w r b L F) (o : Obj) : IRg (w.alloc o) r b L F := h.same (Below.heap_alloc w o r h.lt.1) (Below.heap_alloc w o b h.lt.2)
theorem IRg.drew (h : IRg w r b L F) : IRg w.drew r b L F := h
theorem IRg.drewN (h : IRg w r b L F) (n : Nat) : IRg (w.drewN n) r b L F := h
theorem IRg.setCell (h : IRg w r b L F) (p : Addr) (u : Value) : IRg (w.setCell p u) r b L F := by
  obtain ⟨es, clock, seen, c0, hr, hc, hb, rest⟩ := h
  refine ⟨es, clock, seen, c0, ?_, hc, ?_, rest⟩
  · simp only [World.setCell, Array.getElem?_modify, hr]
    split <;> rfl
  · simp only [World.setCell, Array.getElem?_modify, hb]
    split <;> rfl
theorem IRg.map (h : IRg w r b L F) (hn : (L.map (·.1)).Nodup) : IM w b L := by
  obtain ⟨es, clock, seen, c0, hr, hc, hb, hkv, hbn, hbc, _⟩ := h
  exact ⟨es, clock, hb, hkv, hn, hbn, hbc⟩
end
section
variable {P : Program} {w : World} {ops : Array Oper} {rest : List Oper} {o : Oper} {a : Act} {Q : Exit → Act → World → Prop} {b : Nat} {L : List (I2 × Value)}
theorem wpList_range_im (hg : o.guard = none) (m : Operand) (t : TypeId) (hop : o.op = Op.range t m) (kt e : TypeId) (ht : P.underlying t = some (.map kt e))
    (hm : a.eval m = .map (some b)) (h : IM w b L)
    (hK : ∀ w', IRg w' w.heap.size b L L → w.grownBy w' none → w'.heap.size = w.heap.size + 1 → wpList P ops Q rest (a.put o.dst (.pointer (some ⟨w.heap.size, 0, none⟩))) w') : wpList P ops Q (o :: rest) a w := by
  refine wpList_plain hg fun K' hK' => ?_
  obtain ⟨es, clock, hb, hkv, hnd, hbn, hbc⟩ := h
  have hlt := (Array.getElem?_eq_some_iff.1 hb).1
  have hrun : (Instr.range t (.map (some b))).run P w = .ok (.pointer (some ⟨w.heap.size, 0, none⟩)) (w.alloc (.mapIter (some b) clock #[] clock)) := by
    simp only [Instr.range, Sem.run_bind, run_underlying ht, Result.andThen_ok, MapKept.run_getObj_map hb]
    rfl
  unfold Oper.wp
  simp [execOp, hop, hm, hrun, Result.andThen]
  refine hK' _ _ (hK _ ⟨es, clock, #[], clock, heap_alloc_new w _, Nat.le_refl _, (Below.heap_alloc w _ b hlt).trans hb, hkv, hbn, hbc, ?_⟩ (World.grownBy_alloc w _ none) (by simp))
  have : leftOf es #[] = es := by unfold leftOf; exact Array.filter_eq_self.2 (fun x _ => by simp)
  rw [this]
  exact hkv

def decK : Value → I2
  | .agg cs => (intOf (cs[0]!), intOf (cs[1]!))
  | _ => (0, 0)
theorem decK_kK (k : I2) : decK (kK k) = k := rfl
def decKV (e : MapEntry) : I2 × Value := (decK e.key, e.val)
theorem kvIn_inj : ∀ {F G : List (I2 × Value)}, F.map kvIn = G.map kvIn → F = G
  | [], [], _ => rfl
  | [], _ :: _, h => by simp at h
  | _ :: _, [], h => by simp at h
  | (a, u) :: F, (c, v) :: G, h => by
    simp only [List.map_cons, List.cons.injEq, kvIn, Prod.mk.injEq] at h
    obtain ⟨⟨h0, rfl⟩, h2⟩ := h
    obtain rfl := kK_inj h0
    rw [kvIn_inj h2]
theorem kv_dec : ∀ {es : List MapEntry} {L : List (I2 × Value)}, es.map kvOf = L.map kvIn → L = es.map decKV ∧ ∀ e ∈ es, kvOf e = kvIn (decKV e)
  | [], [], _ => ⟨rfl, by simp⟩
  | [], _ :: _, h => by simp at h
  | _ :: _, [], h => by simp at h
  | e :: es, (a, u) :: L, h => by
    simp only [List.map_cons, List.cons.injEq] at h
    obtain ⟨h1, h2⟩ := h
    have h3 : decKV e = (a, u) := by
      simp only [kvOf, kvIn, Prod.mk.injEq] at h1
      simp [decKV, h1.1, h1.2, decK_kK]
    obtain ⟨i1, i2⟩ := kv_dec h2
    refine ⟨by rw [List.map_cons, h3, ← i1], fun x hx => ?_⟩
    rcases List.mem_cons.1 hx with rfl | hx
    · rw [h3]; exact h1
    · exact i2 x hx
theorem perm_born (e : MapEntry) : ∀ (l : List MapEntry), (l.map (·.born)).Nodup → e ∈ l → l.Perm (e :: l.filter fun x => x.born != e.born)
  | [], _, h => by simp at h
  | x :: l, hn, h => by
    simp only [List.map_cons, List.nodup_cons] at hn
    rcases List.mem_cons.1 h with rfl | h
    · have : (e :: l).filter (fun x => x.born != e.born) = l := by
        rw [List.filter_cons_of_neg (by simp)]
        exact List.filter_eq_self.2 fun y hy => by
          have : y.born ≠ e.born := fun hh => hn.1 (by rw [← hh]; exact List.mem_map_of_mem hy)
          simpa using this
      rw [this]
    · have hxe : x.born ≠ e.born := fun hh => hn.1 (by rw [hh]; exact List.mem_map_of_mem h)
      rw [List.filter_cons_of_pos (by simpa using hxe)]
      exact ((perm_born e l hn.2 h).cons x).trans (List.Perm.swap e x _)

theorem kv_mem {es : List MapEntry} {L : List (I2 × Value)} (h : es.map kvOf = L.map kvIn) {e : MapEntry} (he : e ∈ es) : ∃ p ∈ L, e.key = kK p.1 ∧ e.val = p.2 := by
  have h1 : kvOf e ∈ es.map kvOf := List.mem_map_of_mem he
  rw [h] at h1
  obtain ⟨p, hp, hpe⟩ := List.mem_map.1 h1
  simp only [kvOf, kvIn, Prod.mk.injEq] at hpe
  exact ⟨p, hp, hpe.1.symm, hpe.2.symm⟩

/-- THE STEP: nothing is left; or some entry p of those to come, whichever the tape says. -/
theorem wpList_next_im {r : Nat} {F : List (I2 × Value)} (hg : o.guard = none) (it : Operand) (hop : o.op = Op.next it false) (hit : a.eval it = .pointer (some ⟨r, 0, none⟩)) (h : IRg w r b L F)
    (hDone : F = [] → wpList P ops Q rest (a.put o.dst (.tuple #[.bool false])) w)
    (hMore : ∀ (p : I2 × Value) (F' : List (I2 × Value)) (w' : World), p ∈ L → F.Perm (p :: F') → IRg w' r b L F' → w.grownBy w' (some r) → w'.heap.size = w.heap.size →
      (Instr.entry (.pointer (some ⟨r, 0, none⟩))).run P w' = .ok (.tuple #[kK p.1, p.2]) w' → wpList P ops Q rest (a.put o.dst (.tuple #[.bool true, kK p.1, p.2])) w') : wpList P ops Q (o :: rest) a w := by
  refine wpList_plain hg fun K' hK' => ?_
  obtain ⟨es, clock, seen, c0, hr, hcc, hb, hkv, hbn, hbc, hF⟩ := h
  unfold Oper.wp
  rcases run_next_at (P := P) w o.type r b clock c0 seen es clock hr hb hbc hcc with ⟨h0, hrun⟩ | ⟨e, he, w1, hw1, hrun⟩
  · simp [execOp, hop, hit, hrun, Result.andThen]
    refine hK' _ _ (hDone ?_)
    have : (leftOf es seen).toList = [] := List.eq_nil_of_length_eq_zero (by simpa using h0)
    rw [this] at hF
    simpa using hF.symm
  · have hX : (leftOf es seen).toList = es.toList.filter (fun e => !seen.contains e.born) := by unfold leftOf; rw [Array.toList_filter]
    have hX' : (leftOf es (seen.push e.born)).toList = (leftOf es seen).toList.filter (fun x => x.born != e.born) := by
      rw [hX]
      unfold leftOf
      rw [Array.toList_filter, List.filter_filter]
      congr 1
      funext x
      rw [Bool.eq_iff_iff]
      simp
      constructor
      · rintro ⟨h1, h2⟩; exact ⟨h2, h1⟩
      · rintro ⟨h1, h2⟩; exact ⟨h2, h1⟩
    have hee : e ∈ es.toList := by rw [hX] at he; exact (List.mem_filter.1 he).1
    obtain ⟨hF1, hF2⟩ := kv_dec hF
    have hsub : ((leftOf es seen).toList.map (·.born)).Nodup := by
      rw [hX]
      exact (List.filter_sublist.map _).nodup hbn
    obtain ⟨hL1, hL2⟩ := kv_dec hkv
    have hde := hL2 e hee
    simp only [kvOf, kvIn, Prod.mk.injEq] at hde
    have hr1 : w1.heap[r]? = some (.mapIter (some b) clock seen c0) := by rcases hw1 with rfl | rfl <;> exact hr
    have hb1 : w1.heap[b]? = some (.map es clock) := by rcases hw1 with rfl | rfl <;> exact hb
    have hrl := (Array.getElem?_eq_some_iff.1 hr1).1
    have hrb : r ≠ b := by rintro rfl; rw [hr] at hb; cases hb
    have e1 : (ChangeMaps.setBlock w1 r (.mapIter (some b) clock (seen.push e.born) clock)).heap[r]? = some (.mapIter (some b) clock (seen.push e.born) clock) := by simp [ChangeMaps.setBlock, hrl]
    have e2 : (ChangeMaps.setBlock w1 r (.mapIter (some b) clock (seen.push e.born) clock)).heap[b]? = some (.map es clock) := by
      simp only [ChangeMaps.setBlock]
      rw [Array.getElem?_setIfInBounds_ne hrb]
      exact hb1
    have hsz : (ChangeMaps.setBlock w1 r (.mapIter (some b) clock (seen.push e.born) clock)).heap.size = w.heap.size := by
      rcases hw1 with rfl | rfl <;> simp [ChangeMaps.setBlock]
    have hgr : w.grownBy (ChangeMaps.setBlock w1 r (.mapIter (some b) clock (seen.push e.born) clock)) (some r) := by
      refine ⟨?_, ?_, ?_, by rw [hsz]; exact Nat.le_refl _, fun j _ hj => ?_⟩
      · rcases hw1 with rfl | rfl <;> rfl
      · rcases hw1 with rfl | rfl <;> rfl
      · rcases hw1 with rfl | rfl <;> rfl
      · have hjr : r ≠ j := by rintro rfl; exact hj rfl
        simp only [ChangeMaps.setBlock]
        rw [Array.getElem?_setIfInBounds_ne hjr]
        rcases hw1 with rfl | rfl <;> rfl
    have hent := run_entry_at (P := P) _ r b clock seen es clock e e1 e2 hee hbn
    simp [execOp, hop, hit, hrun, Result.andThen]
    rw [hde.1, hde.2]
    rw [hde.1, hde.2] at hent
    refine hK' _ _ (hMore (decKV e) ((leftOf es (seen.push e.born)).toList.map decKV) _ (by rw [hL1]; exact List.mem_map_of_mem hee) ?_ ⟨es, clock, _, clock, e1, Nat.le_refl _, e2, hkv, hbn, hbc, ?_⟩ hgr hsz hent)
    · rw [hF1, hX']
      exact (perm_born e _ hsub he).map decKV
    · rw [List.map_map]
      refine List.map_congr_left fun x hx => ?_
      rw [hX'] at hx
      exact hF2 x (List.mem_filter.1 hx).1
end
end Go.Proofs.YtcfbgelhggapjaaGreatDoor
/- A region that draws its order: first operations that only read or whose calls leave what stood as it was, then a tail that waits for all of them: one walk in the order of the text. -/
namespace Go.Proofs.YtcfbgelhggapjaaGreatDoor
open Go.RowKit
section
variable {P : Program} {ops : Array Oper} {C : World → Prop} {n : Nat} {L : Array Bool → Act → Prop}
/-- f operations of the head, in whatever order; then L -/
def HeadQ (P : Program) (ops : Array Oper) (C : World → Prop) (n : Nat) (L : Array Bool → Act → Prop) : Nat → Array Bool → Act → Prop
  | 0, s, a => L s a
  | f + 1, s, a => Region.ready .any ops s ≠ [] ∧ ∀ i ∈ Region.ready .any ops s, i < n ∧ qOp P ops C i (HeadQ P ops C n L f (s.setIfInBounds i true)) a
theorem HeadQ.any {g : Nat} {Q : Exit → Act → World → Prop} (hL : ∀ s a, L s a → ∀ w, C w → wpAny P .any ops Q g s a w) :
    ∀ (f : Nat) (s : Array Bool) (a : Act), HeadQ P ops C n L f s a → ∀ w, C w → wpAny P .any ops Q (f + g) s a w
  | 0, s, a, h, w, hw => by simpa using hL s a h w hw
  | f + 1, s, a, h, w, hw => by
    have e : f + 1 + g = f + g + 1 := by omega
    rw [e]
    refine ⟨fun h0 => absurd h0 h.1, fun i hi => ?_⟩
    exact wpOp_of_qOp hw (fun a' w' hw' ha' => HeadQ.any hL f _ a' ha' w' hw') (h.2 i hi).2
theorem HeadQ.first {i : Nat} {o : Oper} {v : Value} (ho : ops[i]? = some o) (hsel : Region.noSelect ops = true) (hs : Region.sinkB .any ops n = true) (hc : Region.chainB .any ops n = true) (hn : n < ops.size) (hin : i < n)
    (hend : ∀ s a, L s a → ∀ j ∈ Region.ready .any ops s, n ≤ j) : ∀ (f : Nat) (s : Array Bool) (a : Act), HeadInv .any ops n s →
      (∀ j oj, ops[j]? = some oj → j ≠ i → s.getD j true = false → (∀ e ∈ oj.after, Region.binds .any e = true → e.on ≠ i) → o.apart ops oj = true) →
      i ∈ Region.ready .any ops s → YieldsIn P ops C o v a → HeadQ P ops C n L f (s.setIfInBounds i true) (a.put o.dst v) → HeadQ P ops C n L (f + 1) s a := by
  intro f
  induction f with
  | zero =>
    intro s a inv _ hr hy H
    refine ⟨fun h => (by rw [h] at hr; cases hr), fun j hj => ?_⟩
    have hun := (mem_ready.1 hr).1
    have hjn : j < n := Nat.lt_of_not_le fun h => absurd hj (tail_waits hs hc hn inv _ i rfl hin hun j h)
    by_cases e : j = i
    · rw [e]
      exact ⟨hin, hy.qOp ho H⟩
    · have := hend _ _ H j (ready_mono hj e)
      omega
  | succ f ih =>
    intro s a inv hap hr hy H
    refine ⟨fun h => (by rw [h] at hr; cases hr), fun j hj => ?_⟩
    have hun := (mem_ready.1 hr).1
    have hjn : j < n := Nat.lt_of_not_le fun h => absurd hj (tail_waits hs hc hn inv _ i rfl hin hun j h)
    by_cases e : j = i
    · rw [e]
      exact ⟨hin, hy.qOp ho H⟩
    · refine ⟨hjn, ?_⟩
      have H1 := (H.2 j (ready_mono hj e)).2
      obtain ⟨hju, oj, hoj, hall⟩ := mem_ready.1 hj
      have hni : ∀ x ∈ oj.after, Region.binds .any x = true → x.on ≠ i := by
        intro x hx hb hxi
        have h1 := hall x hx hb
        rw [hxi, getD_both hun] at h1
        cases h1
      have hsl := Region.noSelect_spec hsel
      have H2 := qOp_put hoj (hap j oj hoj e hju hni) (fun cs b => hsl i o cs b ho) (fun cs b => hsl j oj cs b hoj) hy H1
      refine qOp_mono (fun a' h' => ?_) H2
      refine ih (s.setIfInBounds j true) a' (inv.set hj hjn) (fun k ok hk hki hku hkn => ?_) (ready_mono hr (fun h => e h.symm)) h'.1 ?_
      · refine hap k ok hk hki ?_ hkn
        by_cases hjk : j = k
        · rw [← hjk]; exact hju
        · rwa [getD_set_ne true hjk] at hku
      · rw [Array.setIfInBounds_comm _ _ e]
        exact h'.2
theorem HeadQ.lex {g : Nat} {R : Act → Prop} (hsel : Region.noSelect ops = true) (hs : Region.sinkB .any ops n = true) (hc : Region.chainB .any ops n = true) (hn : n < ops.size) :
    ∀ (l : List Oper) (k : Nat) (s : Array Bool) (a : Act), (∀ j, j < l.length → l[j]? = ops[k + j]?) → k + l.length = n → HeadInv .any ops n s → Region.lexHead .any ops g l.length k s = true → wpQuiet P ops C R l a →
      HeadQ P ops C n (fun s' a' => Region.seqB .any ops g n s' = true ∧ R a') l.length s a
  | [], k, s, a, _, hk, _, hB, h => by
    have e : k = n := by simpa using hk
    rw [← e]
    exact ⟨by simpa [Region.lexHead] using hB, h⟩
  | o :: l, k, s, a, hl, hk, inv, hB, h => by
    have ho : ops[k]? = some o := by simpa using (hl 0 (by simp)).symm
    rw [List.length_cons] at hB hk ⊢
    rw [Region.lexHead, Bool.and_eq_true, Bool.and_eq_true] at hB
    have hr : k ∈ Region.ready .any ops s := by simpa using hB.1.1
    have hq : qOp P ops C k (wpQuiet P ops C R l) a := by
      unfold qOp
      simp only [ho]
      exact h
    obtain ⟨v, hy, hK⟩ := yieldsIn_of_qOp ho hq
    refine HeadQ.first ho hsel hs hc hn (by omega) (fun s' a' hL => seqB_ready hL.1) l.length s a inv (Region.free_spec ho hB.1.2) hr hy ?_
    refine HeadQ.lex hsel hs hc hn l (k + 1) _ _ (fun j hj => ?_) (by omega) (inv.set hr (by omega)) hB.2 hK
    have := hl (j + 1) (by simp; omega)
    rw [List.getElem?_cons_succ] at this
    rw [this]
    congr 1
    omega
theorem wp_region_bt (n : Nat) (w0 : World) {id : Nat} {Q : Exit → Act → World → Prop} {a : Act} {w : World} {l : List Oper} (hw : Below w0.heap.size w0 w) (hm : P.follows .mixedOrders = true) (hB : Region.lexTailB .any l.toArray n = true)
    (h : wpQuiet P l.toArray (fun w' => ∃ x : BW w0, w' = x.val) (fun a' => ∀ w', Below w0.heap.size w0 w' → wpList P l.toArray Q (l.drop n) a' w') (l.take n) a) : (Code.region id l.toArray true).wp P Q a w := by
  simp only [Region.lexTailB, Bool.and_eq_true, decide_eq_true_eq] at hB
  obtain ⟨⟨⟨⟨hsel, hn⟩, hs⟩, hc⟩, hlex⟩ := hB
  have hnl : n < l.length := by simpa using hn
  have hlen : (l.take n).length = n := by rw [List.length_take]; omega
  have hdl : (l.drop n).length = l.toArray.size - n := by simp
  have inv : HeadInv .any l.toArray n (Array.replicate l.toArray.size false) := by
    refine ⟨by simp, fun j oj _ hl => ?_, fun t _ ht => getD_in (by simpa using ht) (getD_replicate_false _ _)⟩
    rw [getD_replicate_false] at hl
    cases hl
  have H := HeadQ.lex (g := l.toArray.size - n) hsel hs hc hn (l.take n) 0 _ a (fun j hj => by
    rw [hlen] at hj
    simp [hj]) (by simpa using hlen) inv (by rw [hlen]; exact hlex) h
  refine wp_region_any hm ?_
  have key := HeadQ.any (Q := Q) (g := l.toArray.size - n) (fun s a' hL w' hw' => by
    obtain ⟨x, rfl⟩ := hw'
    have := wpAny_of_seq (md := .any) (Q' := Q) (l.drop n) n s a' x.val (fun j => by simp [List.getElem?_drop]) (by rw [hdl]; exact hL.1) (hL.2 x.val x.ok)
    rwa [hdl] at this) _ _ _ H w.drew ⟨⟨w.drew, bdrew hw⟩, rfl⟩
  rw [hlen, show n + (l.toArray.size - n) = l.toArray.size from by omega] at key
  exact key
end
end Go.Proofs.YtcfbgelhggapjaaGreatDoor
/- Replica: the books: booked, root, sound. -/
namespace Go.Proofs.YtcfbgelhggapjaaGreatDoor
open Go.RowKit Go.Shelf
theorem keyP : KeyP Tryz.prog 70 where
  und := ⟨_, Tryz.underlying70⟩
  eq := fun a b w => by
    have := eqKy w a b
    simp only [Op.equal, Op.maxDepth]
    exact this
  chk := fun x a w => by
    obtain ⟨p, q⟩ := a
    cases x <;> kernel_rfl
theorem zvRec (w : World) : (zeroValue 49).run Tryz.prog w = .ok zV w := Tryz.zeroValue49 w
/-- block b is a book of the records l -/
def BK (w : World) (b : Nat) (l : List Rc) : Prop := ∃ L, IM w b L ∧ ∀ k, L.lookup k = (fdR k l).map rcV
section
variable {w w' : World} {b : Nat} {l : List Rc}
theorem BK.lt (h : BK w b l) : b < w.heap.size := by obtain ⟨L, h, _⟩ := h; exact h.lt
theorem BK.below {B : Nat} (h : BK w b l) (hb : Below B w w') (hB : b < B) : BK w' b l := by obtain ⟨L, h, g⟩ := h; exact ⟨L, h.below hb hB, g⟩
theorem BK.to (h : BK w b l) (hb : Below w.heap.size w w') : BK w' b l := h.below hb h.lt
end
theorem fd_snoc (k : I2) (l : List Rc) (x : Rc) (h : ∀ y ∈ l, keyR y ≠ keyR x) : fdR k (l ++ [x]) = if k = keyR x then some x else fdR k l := by
  unfold fdR
  rw [List.find?_append]
  by_cases hk : k = keyR x
  · subst hk
    rw [if_pos rfl]
    have : l.find? (isK (keyR x)) = none := by
      have := fd_none (k := keyR x) (l := l)
      unfold fdR at this
      exact this.2 h
    rw [this]
    simp [isK]
  · rw [if_neg hk]
    have : ([x] : List Rc).find? (isK k) = none := by
      simp [isK, Ne.symm hk]
    rw [this]; simp
theorem BK.put {w' : World} {b : Nat} {l : List Rc} {L : List (I2 × Value)} {x : Rc} (h : ∀ k, L.lookup k = (fdR k l).map rcV) (hn : ∀ y ∈ l, keyR y ≠ keyR x) (him : IM w' b (putK (keyR x) (rcV x) L)) : BK w' b (l ++ [x]) :=
  ⟨_, him, fun k => by
    rw [lookup_putK, fd_snoc k l x hn]
    split
    · rfl
    · exact h k⟩
set_option linter.unusedSimpArgs false in
set_option maxRecDepth 100000 in
set_option maxHeartbeats 8000000 in
theorem c_pbooked (A : Option Addr) (N c : Nat) (l : List Rc) (w : World) (hnd : (l.map keyR).Nodup) (hn : N ≤ 9223372036854775807) (hr : SlR w w.heap.size 7 A N (l.flatMap cR)) :
    Calls Tryz.prog 52 #[.slice A N c] w fun e w' => ∃ b, e = .returned (.map (some b)) ∧ w.heap.size ≤ b ∧ BK w' b l ∧ Below w.heap.size w w' := by
  have HL := hide hr.lenR
  have HN := hide hnd
  clear hnd
  have hmm := @run_makeMap Tryz.prog
  go_enter Tryz.func52, Tryz.ntmps52
  go_wp2
  go_loopw [9] (fun i wr => ∃ k : Nat, k ≤ N ∧ i = .int .i64 k ∧ BK wr w.heap.size (l.take k) ∧ Below w.heap.size w wr) (fun i _ => N - (intOf i).toNat)
  case atStart => exact ⟨0, Nat.zero_le _, rfl, ⟨[], IM.new w, fun k => rfl⟩, balloc (Below.refl _ _) _⟩
  case round =>
    obtain ⟨k, hk, rfl, him, hb⟩ := hrel
    by_cases hlt : k < N
    · have hkl : k < l.length := by have := HL.out; omega
      obtain ⟨b, off, rfl, hbb⟩ := hr.some_of (by omega)
      obtain ⟨-, x0, x1, x2, x3, x4, x5, x6⟩ := hr.cellsR hb hkl
      have hji : (k : Int) < (N : Int) := by omega
      have HS := hide (List.take_succ_eq_append_getElem hkl)
      have HF : Hid (∀ y ∈ l.take k, keyR y ≠ keyR l[k]) := hide (fun y hy e => by
        obtain ⟨j, hj, rfl⟩ := List.mem_take_iff_getElem.1 hy
        have hjk : j < k := by omega
        have hp := List.pairwise_map.1 HN.out
        exact (List.pairwise_iff_getElem.1 hp) j k (by omega) hkl hjk e)
      obtain ⟨L, him1, hL⟩ := him
      have HLk := hide hL
      have hmlt := him1.lt
      clear hr hmm hL
      generalize l[k] = x at *
      obtain ⟨p, n, t, o, wh, kk, tx⟩ := x
      dsimp only at x0 x1 x2 x3 x4 x5 x6
      go_wp2_with fail
      generalize hW : wr.alloc (.cells #[.int .i64 p, .int .i64 n, .int .i64 t, .int .i64 o, .int .i64 wh, .int .i64 kk, .string tx] 49) = W
      have hbW : Below wr.heap.size wr W := by rw [← hW]; exact balloc (Below.refl _ _) _
      have gX : Blk W wr.heap.size 49 (cR ⟨p, n, t, o, wh, kk, tx⟩) := by rw [← hW]; exact Blk.new wr 49 (cR ⟨p, n, t, o, wh, kk, tx⟩)
      have himW := him1.below hbW hmlt
      obtain ⟨z0, z1, z2, z3, z4, z5, z6⟩ := gX.bwR
      dsimp only at z0 z1 z2 z3 z4 z5 z6
      have hgl := gX.lt
      have hcK := fun q : BW W => c_pkeyOf ⟨p, n, t, o, wh, kk, tx⟩ q.val
      unfold rcV kV keyR at hcK
      dsimp only at hcK
      have HB := hide (And.intro hb hbW)
      clear hW him1 x0 x1 x2 x3 x4 x5 x6 hb hbW gX
      refine wp_region_bt 4 W (Below.refl _ _) (by kernel_rfl) (by kernel_rfl) ?_
      simp only [List.take_succ_cons, List.take_zero, List.drop_succ_cons, List.drop_zero]
      repeat (go_big_quiet_step ((go_at_call 68; exact bw_call (hcK _))))
      refine wpQuiet_nil ?_
      intro w5 hb5
      have him5 := himW.below hb5 himW.lt
      clear z0 z1 z2 z3 z4 z5 z6 hcK himW
      go_wp2_with (at_mapUpdate; refine wpList_mapUpdate_im rfl _ _ _ 79 (Or.inl rfl) 70 49 Tryz.underlying79 keyP rfl him5 (p, n) rfl (rcV ⟨p, n, t, o, wh, kk, tx⟩) rfl ?_; intro w6 him6 hg6 hs6)
      go_roundw
      case rel =>
        refine ⟨k + 1, by omega, by go_num, ?_, ?_⟩
        · rw [HS.out]
          exact BK.put (x := ⟨p, n, t, o, wh, kk, tx⟩) HLk.out HF.out him6
        · exact bgrown (bthen (bthen HB.out.1 HB.out.2) hb5) hg6 (fun j e => by cases e; exact Nat.le_refl _)
      case measure => simp [intOf]; omega
    · obtain rfl : k = N := by omega
      have HM := hide him
      clear him hmm
      go_wp2
      go_ret
      have him := HM.out
      rw [← HL.out, List.take_length] at him
      exact ⟨_, rfl, Nat.le_refl _, him, hb⟩
end Go.Proofs.YtcfbgelhggapjaaGreatDoor
/- Replica: slices.Compact at records. -/
namespace Go.Proofs.YtcfbgelhggapjaaGreatDoor
open Go.RowKit Go.Shelf
theorem cpL_snoc : ∀ (l : List Rc) (x y : Rc), cpL (l ++ [x] ++ [y]) = if x = y then cpL (l ++ [x]) else cpL (l ++ [x]) ++ [y]
  | [], x, y => by
    by_cases h : x = y
    · subst h; simp [cpL]
    · simp [cpL, h]
  | [a], x, y => by
    by_cases h : x = y
    · subst h
      by_cases g : a = x <;> simp [cpL, g]
    · by_cases g : a = x <;> simp [cpL, g, h]
  | a :: b :: l, x, y => by
    have ih := cpL_snoc (b :: l) x y
    simp only [List.cons_append, cpL] at ih ⊢
    by_cases h : x = y
    · rw [if_pos h] at ih ⊢
      rw [ih]
    · rw [if_neg h] at ih ⊢
      rw [ih]
      split <;> rfl
theorem cp_step {l : List Rc} {i : Nat} (h0 : 0 < i) (hi : i < l.length) : cpL (l.take (i + 1)) = if l[i - 1]'(by omega) = l[i] then cpL (l.take i) else cpL (l.take i) ++ [l[i]] := by
  obtain ⟨j, rfl⟩ : ∃ j, i = j + 1 := ⟨i - 1, by omega⟩
  have h1 : l.take (j + 1) = l.take j ++ [l[j]] := List.take_succ_eq_append_getElem (by omega)
  rw [List.take_succ_eq_append_getElem hi, h1, cpL_snoc]
  simp only [Nat.add_sub_cancel]
theorem cpL_len : ∀ (l : List Rc), (cpL l).length ≤ l.length
  | [] => Nat.le_refl _
  | [x] => Nat.le_refl _
  | x :: y :: l => by
    have := cpL_len (y :: l)
    simp only [cpL]
    split
    · simp only [List.length_cons] at *; omega
    · simp only [List.length_cons] at *; omega
/-- the work of the second loop: x elements of l are done, i of them are kept, at the front of m -/
def CpI (l m : List Rc) (i x : Nat) : Prop := m.length = l.length ∧ i < x ∧ m.take i = cpL (l.take x) ∧ ∀ j, i ≤ j → m[j]? = l[j]?
theorem CpI.skip {l m : List Rc} {i x : Nat} (h : CpI l m i x) (hx : x < l.length) (h0 : 0 < x) (e : l[x - 1]'(by omega) = l[x]) : CpI l m i (x + 1) := by
  obtain ⟨h1, h2, h3, h4⟩ := h
  exact ⟨h1, by omega, by rw [cp_step h0 hx, if_pos e]; exact h3, h4⟩
theorem CpI.keep {l m : List Rc} {i x : Nat} (h : CpI l m i x) (hx : x < l.length) (h0 : 0 < x) (e : ¬ l[x - 1]'(by omega) = l[x]) : CpI l (m.set i l[x]) (i + 1) (x + 1) := by
  obtain ⟨h1, h2, h3, h4⟩ := h
  refine ⟨by simpa using h1, by omega, ?_, fun j hj => ?_⟩
  · rw [cp_step h0 hx, if_neg e, ← h3, List.take_succ_eq_append_getElem (by simp; omega)]
    congr 1
    · rw [List.take_set_of_le (Nat.le_refl _)]
    · simp
  · rw [List.getElem?_set, if_neg (by omega)]
    exact h4 j (by omega)
set_option linter.unusedSimpArgs false in
set_option maxRecDepth 100000 in
set_option maxHeartbeats 8000000 in
theorem c_sCompact (l : List Rc) (A : Option Addr) (cap base : Nat) (w : World) (hl : l.length ≤ 1000000) (h : w.ownsRow base 49 7 (.slice A l.length cap) l.length (l.flatMap cR)) :
    Calls Tryz.prog 90 #[.slice A l.length cap] w fun e w' => ∃ v, e = .returned v ∧ w'.ownsRow base 49 7 v (cpL l).length ((cpL l).flatMap cR) ∧ Below base w w' := by
  by_cases hn : l.length < 2
  · have HC : Hid (cpL l = l) := hide (by
      match l, hn with
      | [], _ => rfl
      | [x], _ => rfl)
    have HO := hide h
    have hz : (l.length : Int) < 2 := by omega
    clear h
    generalize l.length = N at *
    go_enter Tryz.func90, Tryz.ntmps90
    go_wp2
    go_ret
    refine ⟨_, rfl, ?_, Below.refl _ _⟩
    rw [HC.out]
    have := HO.out
    have e := this.1
    rw [flat_len cR 7 (fun _ => rfl)] at e
    have e2 : N = l.length := by omega
    rw [e2] at this ⊢
    exact this
  · obtain ⟨g, cap', hv, hM⟩ := RowM.of_own h (by omega)
    cases hv
    have hcap := hM.2.1
    obtain ⟨N, hN⟩ : ∃ N, N = l.length := ⟨_, rfl⟩
    have HN := hide hN
    rw [← hN] at hn hcap hl ⊢
    have HM := hide hM
    have hgl := hM.lt
    have hN2 : ¬ (N : Int) < 2 := by omega
    have hcL := fun (k : Nat) (hk : k < l.length) (W : World) => hM.cutLo hk W
    have hcH := fun (k : Nat) (hk : k ≤ l.length) (W : World) => hM.cutHi hk W
    rw [← hN] at hcL hcH
    have HCL := hide hcL
    have HCH := hide hcH
    clear h hM hN hcL hcH
    go_enter Tryz.func90, Tryz.ntmps90
    go_wp2
    go_loopw [3] (fun i wr => ∃ k : Nat, 1 ≤ k ∧ k ≤ N ∧ i = .int .i64 k ∧ Hid (cpL (l.take k) = l.take k) ∧ ∃ q, wr = w.drewN q) (fun i _ => N - (intOf i).toNat)
    case atStart => exact ⟨1, Nat.le_refl _, by omega, rfl, hide (by
      have hN := HN.out
      match l, hN with
      | [], _ => rfl
      | x :: l, _ => rfl), 0, rfl⟩
    case round =>
      obtain ⟨k, hk1, hk, rfl, HK, q, rfl⟩ := hrel
      by_cases hlt : k < N
      · have hkl : k < l.length := by have := HN.out; omega
        have hji : (k : Int) < (N : Int) := by omega
        obtain ⟨x0, x1, x2, x3, x4, x5, x6⟩ := HM.out.cells hkl
        obtain ⟨y0, y1, y2, y3, y4, y5, y6⟩ := HM.out.cells (k := k - 1) (by omega)
        have HS := hide (cp_step (l := l) (i := k) (by omega) hkl)
        have HT := hide (List.take_succ_eq_append_getElem hkl)
        have ek : ((k : Int) - 1).toNat = k - 1 := by omega
        have ek1 : (0 : Int) ≤ (k : Int) - 1 := by omega
        have ek2 : (k : Int) - 1 < (N : Int) := by omega
        obtain ⟨x, hx⟩ : ∃ x, l[k] = x := ⟨_, rfl⟩
        obtain ⟨y, hy⟩ : ∃ y, l[k - 1]'(by omega) = y := ⟨_, rfl⟩
        rw [hx] at x0 x1 x2 x3 x4 x5 x6
        rw [hy] at y0 y1 y2 y3 y4 y5 y6
        have HX := hide (And.intro hx hy)
        by_cases hst : y = x
        · have hq : ∀ w, (binOp .eql 49 (rcV x) (rcV y)).run Tryz.prog w = .ok (.bool true) w := fun w => by rw [eqlRc w x y, decide_eq_true hst.symm]
          simp only [rcV] at hq
          have HI0 : Hid (CpI l l k (k + 1)) := hide ⟨rfl, by omega, by rw [HS.out, HX.out.1, HX.out.2, if_pos hst]; exact HK.out.symm, fun j _ => rfl⟩
          have hcl := HCL.out k hlt
          clear hst hx hy HS HT HK
          go_wp2_with fail
          go_quiet (fail)
          clear x0 x1 x2 x3 x4 x5 x6 y0 y1 y2 y3 y4 y5 y6 hq
          obtain ⟨w0, hw0⟩ : ∃ w0, w0 = (w.drewN q).drewN nq := ⟨_, rfl⟩
          have hb0 : Below w.heap.size w w0 := by rw [hw0]; exact below_drewN (below_drewN (Below.refl _ _) _) _
          try rw [show w.drewN (q + nq) = w0 from by rw [hw0]; rfl]
          try rw [← hw0]
          have HM0 := hide (HM.out.to hb0)
          clear hw0
          go_wp2
          go_loopw [3, 5] (fun i s wr => ∃ (i' s' : Nat) (m : List Rc), i = .int .i64 i' ∧ s = .int .i64 s' ∧ 1 ≤ s' ∧ k ≤ i' ∧ k + s' ≤ N ∧ Hid (CpI l m i' (k + s')) ∧ RowM wr base g cap m ∧ Below base w wr) (fun _ s _ => N - (intOf s).toNat)
          case atStart => exact ⟨k, 1, l, rfl, rfl, Nat.le_refl _, Nat.le_refl _, by omega, HI0, HM0.out, hb0.mono (by have := HM.out.1; omega)⟩
          case round =>
            clear HI0 HM0 hb0 hcl
            obtain ⟨i', s', m, rfl, rfl, hs1, hki, hks, HI, hM, hb⟩ := hrel
            have HMx := hide hM
            have hgw := hM.lt
            by_cases hlt2 : k + s' < N
            · have hml : k + s' < m.length := by have := HI.out.1; have := HN.out; omega
              have hll : k + s' < l.length := by have := HN.out; omega
              have hz2 : (s' : Int) < (N : Int) - (k : Int) := by omega
              have hz3 : s' < N - k := by omega
              have hz4 : (s' : Int) < ((N - k : Nat) : Int) := by omega
              obtain ⟨x0, x1, x2, x3, x4, x5, x6⟩ := hM.cells hml
              obtain ⟨y0, y1, y2, y3, y4, y5, y6⟩ := hM.cells (k := k + s' - 1) (by omega)
              have ex : m[k + s'] = l[k + s'] := by
                have h4 := HI.out.2.2.2 (k + s') (by have := HI.out.2.1; omega)
                rw [List.getElem?_eq_getElem hml, List.getElem?_eq_getElem hll] at h4
                exact Option.some.inj h4
              have ey : m[k + s' - 1]'(by omega) = l[k + s' - 1]'(by omega) := by
                have h4 := HI.out.2.2.2 (k + s' - 1) (by have := HI.out.2.1; omega)
                rw [List.getElem?_eq_getElem (by omega), List.getElem?_eq_getElem (by omega)] at h4
                exact Option.some.inj h4
              have hi'N : i' < N := by have := HI.out.2.1; omega
              obtain ⟨c0, c1, c2, c3, c4, c5, c6⟩ := hM.cells (k := i') (by have := HI.out.1; have := HN.out; omega)
              obtain ⟨f0, f1, f2, f3, f4, f5, f6⟩ := hM.fr i'
              have eo : (k + s') * 7 = k * 7 + s' * 7 := Nat.add_mul _ _ _
              have eo2 : (k + s' - 1) * 7 = k * 7 + (s' - 1) * 7 := by rw [← Nat.add_mul]; congr 1; omega
              rw [eo] at x0 x1 x2 x3 x4 x5 x6
              rw [eo2] at y0 y1 y2 y3 y4 y5 y6
              rw [ex] at x0 x1 x2 x3 x4 x5 x6
              rw [ey] at y0 y1 y2 y3 y4 y5 y6
              have HSk := hide (fun (e : l[k + s' - 1]'(by omega) = l[k + s']) => HI.out.skip hll (by omega) e)
              have HKp := hide (fun (e : ¬ l[k + s' - 1]'(by omega) = l[k + s']) => HI.out.keep hll (by omega) e)
              have him : i' < m.length := by have := HI.out.1; have := HN.out; omega
              have HSt := hide him
              clear him
              have ek : ((s' : Int) - 1).toNat = s' - 1 := by omega
              have ek1 : (0 : Int) ≤ (s' : Int) - 1 := by omega
              have ek2 : (s' : Int) - 1 < ((N - k : Nat) : Int) := by omega
              have hii : (i' : Int) < (N : Int) := by omega
              obtain ⟨x, hx⟩ : ∃ x, l[k + s'] = x := ⟨_, rfl⟩
              obtain ⟨y, hy⟩ : ∃ y, l[k + s' - 1]'(by omega) = y := ⟨_, rfl⟩
              rw [hx] at x0 x1 x2 x3 x4 x5 x6
              rw [hy] at y0 y1 y2 y3 y4 y5 y6
              rw [hx, hy] at HSk
              rw [hx, hy] at HKp
              have HB := hide hb
              clear eo eo2 hM hx hy ex ey hb
              by_cases hst : y = x
              · have hq : ∀ w, (binOp .neq 49 (rcV x) (rcV y)).run Tryz.prog w = .ok (.bool false) w := fun w => by rw [neqRc w x y, decide_eq_true hst.symm]; rfl
                simp only [rcV] at hq
                have HZ := hide (HSk.out hst)
                clear hst HSk HKp
                go_wp2_with fail
                go_quiet (fail)
                go_wp2_with fail
                go_roundw
                case rel => exact ⟨i', s' + 1, m, rfl, by go_num, by omega, hki, by omega, HZ, HMx.out.to (below_drewN (Below.refl _ _) _), below_drewN HB.out _⟩
                case measure => simp [intOf]; omega
              · have hq : ∀ w, (binOp .neq 49 (rcV x) (rcV y)).run Tryz.prog w = .ok (.bool true) w := fun w => by rw [neqRc w x y, decide_eq_false (fun e => hst e.symm)]; rfl
                simp only [rcV] at hq
                have HZ := hide (HKp.out hst)
                clear hst HSk HKp
                go_wp2_with fail
                go_quiet (fail)
                go_wp2_with fail
                go_roundw
                case rel =>
                  refine ⟨i' + 1, s' + 1, m.set i' x, by go_num, by go_num, by omega, by omega, by omega, HZ, ?_, ?_⟩
                  · exact (HMx.out.to (below_drewN (Below.refl _ _) nq)).store HSt.out x
                  · have hbg : base ≤ g := HMx.out.1
                    exact (((((((below_drewN HB.out nq).setCell hbg _).setCell hbg _).setCell hbg _).setCell hbg _).setCell hbg _).setCell hbg _).setCell hbg _
                case measure => simp [intOf]; omega
            · have hks' : k + s' = N := by omega
              have hz3 : ¬ s' < N - k := by omega
              have hz4 : ¬ (s' : Int) < ((N - k : Nat) : Int) := by omega
              have hml : m.length = N := by have := HI.out.1; have := HN.out; omega
              have hiN : i' < N := by have := HI.out.2.1; omega
              obtain ⟨W, hW1, hW2, hW3⟩ := hM.clear (k := i') (by omega)
              rw [hml] at hW1
              have hc1 := HCL.out i' hiN
              have hc2 := HCH.out i' (by omega)
              have hii : (i' : Int) ≤ (N : Int) := by omega
              have HF := hide (show m.take i' = cpL l by
                have h3 := HI.out.2.2.1
                rw [hks', HN.out, List.take_length] at h3
                exact h3)
              have HLn := hide (show (cpL l).length = i' by rw [← HF.out, List.length_take]; omega)
              have HW := hide (And.intro hW2 (hb.trans hW3))
              clear hM hb hW2 hW3 hml hks' HMx
              go_wp2
              go_ret
              refine ⟨_, rfl, ?_, HW.out.2⟩
              have h := HW.out.1.own
              rw [HF.out, HLn.out] at h
              rw [HLn.out]
              exact h
        · have hq : ∀ w, (binOp .eql 49 (rcV x) (rcV y)).run Tryz.prog w = .ok (.bool false) w := fun w => by rw [eqlRc w x y, decide_eq_false (fun e => hst e.symm)]
          simp only [rcV] at hq
          have HZ := hide (show cpL (l.take (k + 1)) = l.take (k + 1) by rw [HS.out, HX.out.1, HX.out.2, if_neg hst, HK.out, HT.out, HX.out.1])
          clear hst hx hy HS HT HK
          go_wp2_with fail
          go_quiet (fail)
          go_wp2_with fail
          go_roundw
          case rel => exact ⟨k + 1, by omega, by omega, by go_num, HZ, _, rfl⟩
          case measure => simp [intOf]; omega
      · obtain rfl : k = N := by omega
        have HZ := hide (show cpL l = l by
          have h1 := HK.out
          have h2 := HN.out
          rw [h2, List.take_length] at h1
          exact h1)
        clear HK
        go_wp2
        go_ret
        refine ⟨_, rfl, ?_, below_drewN (Below.refl _ _) _⟩
        rw [HZ.out]
        have := (HM.out.to (below_drewN (Below.refl _ _) q)).own
        rw [← HN.out] at this ⊢
        exact this
end Go.Proofs.YtcfbgelhggapjaaGreatDoor
/- The plain law of a symmetric merge: rotating the middle of two sorted pieces and merging both halves sorts. No program here. -/
namespace Go.Proofs.YtcfbgelhggapjaaGreatDoor
open Go.Sort
variable {α : Type} [Inhabited α] {lt : α → α → Bool}
/-- where the element at x comes from when [s, m) and [m, e) change places -/
def rx (s m e x : Nat) : Nat := if s ≤ x ∧ x < s + (e - m) then x + (m - s) else if s + (e - m) ≤ x ∧ x < e then x - (e - m) else x
def RotOf (d d' : Array α) (s m e : Nat) : Prop := PermIn s e d d' ∧ ∀ x, x < d.size → d'[x]! = d[rx s m e x]!
theorem rot_none (d : Array α) (s m e : Nat) (hs : s ≤ m) (he : m ≤ e) (h : s = m ∨ m = e) : RotOf d d s m e := by
  refine ⟨permIn_refl _ _ _, fun x _ => ?_⟩
  congr 1
  unfold rx
  (repeat' split) <;> omega
/-- swap of two ranges of n -/
def wx (a b n x : Nat) : Nat := if a ≤ x ∧ x < a + n then b + (x - a) else if b ≤ x ∧ x < b + n then a + (x - b) else x
def SwrOf (d d' : Array α) (a b n : Nat) : Prop := PermIn a (b + n) d d' ∧ ∀ x, x < d.size → d'[x]! = d[wx a b n x]!
theorem swr_zero (d : Array α) (a b : Nat) : SwrOf d d a b 0 := by
  refine ⟨permIn_refl _ _ _, fun x _ => ?_⟩
  congr 1
  unfold wx
  (repeat' split) <;> omega
theorem swr_step {d d' : Array α} {a b n : Nat} (h : SwrOf d d' a b n) (hab : a + n < b) (hb : b + n < d.size) : SwrOf d (swp d' (a + n) (b + n)) a b (n + 1) := by
  obtain ⟨hp, hx⟩ := h
  have hsz : d'.size = d.size := hp.1
  refine ⟨permIn_trans _ _ _ _ _ (permIn_mono _ _ _ _ _ _ (Nat.le_refl _) (by omega) (by omega) hp) (swp_permIn _ _ _ _ _ (by omega) (by omega) (by omega) (by omega) (by omega)), fun x hxs => ?_⟩
  rw [swp_get d' (by omega) (by omega)]
  split
  · subst x; rw [hx _ (by omega)]; congr 1; unfold wx; (repeat' split) <;> omega
  · split
    · subst x; rw [hx _ (by omega)]; congr 1; unfold wx; (repeat' split) <;> omega
    · rw [hx _ (by omega)]; congr 1; unfold wx; (repeat' split) <;> omega
/-- the rounds of a rotation -/
theorem rot_left {d c c' d' : Array α} {a m b i j : Nat} (h : ∀ d', RotOf c d' (m - i) m (m + j) → RotOf d d' a m b) (him : a + i ≤ m) (hjb : m + j ≤ b) (hsz : c.size = d.size) (hb : b ≤ d.size) (hji : j < i)
    (hs : SwrOf c c' (m - i) m j) (hr : RotOf c' d' (m - (i - j)) m (m + j)) : RotOf d d' a m b := by
  apply h
  have h1 : c'.size = c.size := hs.1.1
  have h2 : d'.size = c'.size := hr.1.1
  refine ⟨permIn_trans _ _ _ _ _ (permIn_mono _ _ _ _ _ _ (by omega) (by omega) (by omega) hs.1) (permIn_mono _ _ _ _ _ _ (by omega) (by omega) (by omega) hr.1), fun x hx => ?_⟩
  rw [hr.2 x (by omega), hs.2 _ (by unfold rx; (repeat' split) <;> omega)]
  congr 1
  unfold rx wx
  (repeat' split) <;> omega
theorem rot_right {d c c' d' : Array α} {a m b i j : Nat} (h : ∀ d', RotOf c d' (m - i) m (m + j) → RotOf d d' a m b) (him : a + i ≤ m) (hjb : m + j ≤ b) (hsz : c.size = d.size) (hb : b ≤ d.size) (hij : i < j)
    (hs : SwrOf c c' (m - i) (m + j - i) i) (hr : RotOf c' d' (m - i) m (m + (j - i))) : RotOf d d' a m b := by
  apply h
  have h1 : c'.size = c.size := hs.1.1
  have h2 : d'.size = c'.size := hr.1.1
  refine ⟨permIn_trans _ _ _ _ _ (permIn_mono _ _ _ _ _ _ (by omega) (by omega) (by omega) hs.1) (permIn_mono _ _ _ _ _ _ (by omega) (by omega) (by omega) hr.1), fun x hx => ?_⟩
  rw [hr.2 x (by omega), hs.2 _ (by unfold rx; (repeat' split) <;> omega)]
  congr 1
  unfold rx wx
  (repeat' split) <;> omega
theorem rot_last {c d' : Array α} {m i : Nat} (him : i ≤ m) (hs : SwrOf c d' (m - i) m i) : RotOf c d' (m - i) m (m + i) := by
  refine ⟨hs.1, fun x hx => ?_⟩
  rw [hs.2 x hx]
  congr 1
  unfold rx wx
  (repeat' split) <;> omega

theorem rot_up {d c : Array α} {a k : Nat} (h : RotOf d c a (a + 1) (k + 1)) (hak : a ≤ k) (hk : k + 1 < d.size) : RotOf d (swp c k (k + 1)) a (a + 1) (k + 1 + 1) := by
  obtain ⟨hp, hx⟩ := h
  have hsz : c.size = d.size := hp.1
  refine ⟨permIn_trans _ _ _ _ _ (permIn_mono _ _ _ _ _ _ (Nat.le_refl _) (by omega) (by omega) hp) (swp_permIn _ _ _ _ _ hak (by omega) (by omega) (by omega) (by omega)), fun x hxs => ?_⟩
  rw [swp_get c (by omega) (by omega)]
  split
  · subst x; rw [hx _ (by omega)]; congr 1; unfold rx; (repeat' split) <;> omega
  · split
    · subst x; rw [hx _ (by omega)]; congr 1; unfold rx; (repeat' split) <;> omega
    · rw [hx _ (by omega)]; congr 1; unfold rx; (repeat' split) <;> omega
theorem rot_down {d c : Array α} {m k : Nat} (h : RotOf d c (k + 1) m (m + 1)) (hk : k + 1 ≤ m) (hm : m < d.size) : RotOf d (swp c (k + 1) k) k m (m + 1) := by
  obtain ⟨hp, hx⟩ := h
  have hsz : c.size = d.size := hp.1
  refine ⟨permIn_trans _ _ _ _ _ (permIn_mono _ _ _ _ _ _ (by omega) (Nat.le_refl _) (by omega) hp) (swp_permIn _ _ _ _ _ (by omega) (by omega) (Nat.le_refl _) (by omega) (by omega)), fun x hxs => ?_⟩
  rw [swp_get c (by omega) (by omega)]
  split
  · subst x; rw [hx _ (by omega)]; congr 1; unfold rx; (repeat' split) <;> omega
  · split
    · subst x; rw [hx _ (by omega)]; congr 1; unfold rx; (repeat' split) <;> omega
    · rw [hx _ (by omega)]; congr 1; unfold rx; (repeat' split) <;> omega
/-- behind the rotation: four sorted pieces, and nothing of the upper half is less than anything of the lower half -/
theorem sym_split (hS : SWO lt) {d d1 : Array α} {a m b s e : Nat} (hb : b ≤ d.size) (has : a ≤ s) (hsm : s ≤ m) (hme : m ≤ e) (heb : e ≤ b)
    (hA : SortedIn lt a m d) (hB : SortedIn lt m b d) (hL : s = a ∨ e = b ∨ lt d[e]! d[s - 1]! = false) (hR : s = m ∨ e = m ∨ lt d[e - 1]! d[s]! = true) (hr : RotOf d d1 s m e) :
    SortedIn lt a s d1 ∧ SortedIn lt s (s + (e - m)) d1 ∧ SortedIn lt (s + (e - m)) e d1 ∧ SortedIn lt e b d1 ∧ ∀ x y, a ≤ x → x < s + (e - m) → s + (e - m) ≤ y → y < b → lt d1[y]! d1[x]! = false := by
  have g1 : ∀ x, a ≤ x → x < s → d1[x]! = d[x]! := fun x _ hx => by rw [hr.2 x (by omega)]; congr 1; unfold rx; (repeat' split) <;> omega
  have g2 : ∀ x, s ≤ x → x < s + (e - m) → d1[x]! = d[x + (m - s)]! := fun x _ hx => by rw [hr.2 x (by omega)]; congr 1; unfold rx; (repeat' split) <;> omega
  have g3 : ∀ x, s + (e - m) ≤ x → x < e → d1[x]! = d[x - (e - m)]! := fun x _ hx => by rw [hr.2 x (by omega)]; congr 1; unfold rx; (repeat' split) <;> omega
  have g4 : ∀ x, e ≤ x → x < b → d1[x]! = d[x]! := fun x _ hx => by rw [hr.2 x (by omega)]; congr 1; unfold rx; (repeat' split) <;> omega
  have irr := hS.irrefl
  have asym : ∀ x y, lt x y = true → lt y x = false := fun x y h => hS.asymmA h
  -- sorted, with equality
  have sA : ∀ i j, a ≤ i → i ≤ j → j < m → lt d[j]! d[i]! = false := fun i j h1 h2 h3 => by
    rcases Nat.eq_or_lt_of_le h2 with rfl | h
    · exact irr _
    · exact hA i j h1 h h3
  have sB : ∀ i j, m ≤ i → i ≤ j → j < b → lt d[j]! d[i]! = false := fun i j h1 h2 h3 => by
    rcases Nat.eq_or_lt_of_le h2 with rfl | h
    · exact irr _
    · exact hB i j h1 h h3
  refine ⟨fun i j h1 h2 h3 => ?_, fun i j h1 h2 h3 => ?_, fun i j h1 h2 h3 => ?_, fun i j h1 h2 h3 => ?_, fun x y h1 h2 h3 h4 => ?_⟩
  · rw [g1 i (by omega) (by omega), g1 j (by omega) (by omega)]; exact hA i j h1 h2 (by omega)
  · rw [g2 i (by omega) (by omega), g2 j (by omega) (by omega)]; exact hB _ _ (by omega) (by omega) (by omega)
  · rw [g3 i (by omega) (by omega), g3 j (by omega) (by omega)]; exact hA _ _ (by omega) (by omega) (by omega)
  · rw [g4 i (by omega) (by omega), g4 j (by omega) (by omega)]; exact hB _ _ (by omega) (by omega) (by omega)
  · by_cases hx : x < s
    · rw [g1 x h1 hx]
      by_cases hy : y < e
      · rw [g3 y h3 hy]; exact sA _ _ h1 (by omega) (by omega)
      · rw [g4 y (by omega) h4]
        rcases hL with h | h | h
        · omega
        · omega
        · exact hS.ntrans _ _ _ (sB e y (by omega) (by omega) h4) (hS.ntrans _ _ _ h (sA x (s - 1) h1 (by omega) (by omega)))
    · rw [g2 x (by omega) h2]
      by_cases hy : y < e
      · rw [g3 y h3 hy]
        rcases hR with h | h | h
        · omega
        · omega
        · exact hS.ntrans _ _ _ (sA s _ (by omega) (by omega) (by omega)) (hS.ntrans _ _ _ (asym _ _ h) (sB _ (e - 1) (by omega) (by omega) (by omega)))
      · rw [g4 y (by omega) h4]; exact sB _ _ (by omega) (by omega) h4
theorem sorted_glue {d : Array α} {a m b : Nat} (h1 : SortedIn lt a m d) (h2 : SortedIn lt m b d) (hx : ∀ x y, a ≤ x → x < m → m ≤ y → y < b → lt d[y]! d[x]! = false) : SortedIn lt a b d := by
  intro i j hi hij hj
  by_cases h : j < m
  · exact h1 i j hi hij h
  · by_cases h' : i < m
    · exact hx i j hi h' (by omega) hj
    · exact h2 i j (by omega) hij hj
/-- both halves merged -/
theorem sym_join {d1 d2 d3 : Array α} {a m b : Nat} (ham : a ≤ m) (hmb : m ≤ b) (hb : b ≤ d1.size) (hx : ∀ x y, a ≤ x → x < m → m ≤ y → y < b → lt d1[y]! d1[x]! = false) (hp2 : PermIn a m d1 d2) (hs2 : SortedIn lt a m d2) (hp3 : PermIn m b d2 d3) (hs3 : SortedIn lt m b d3) :
    PermIn a b d1 d3 ∧ SortedIn lt a b d3 := by
  have h2 : d2.size = d1.size := hp2.1
  have h3 : d3.size = d2.size := hp3.1
  refine ⟨permIn_trans _ _ _ _ _ (permIn_mono _ _ _ _ _ _ (Nat.le_refl _) (by omega) (by omega) hp2) (permIn_mono _ _ _ _ _ _ (by omega) (Nat.le_refl _) (by omega) hp3), sorted_glue (fun i j hi hij hj => ?_) hs3 (fun x y h1 h2' h3' h4 => ?_)⟩
  · rw [hp3.2.1 i (by omega), hp3.2.1 j (by omega)]; exact hs2 i j hi hij hj
  · rw [hp3.2.1 x (by omega)]
    refine permIn_all d2 d3 m b (fun z => lt z d2[x]! = false) (by omega) hp3 (fun y' hy1 hy2 => ?_) y h3' h4
    rw [hp2.2.1 y' (by omega)]
    exact permIn_all d1 d2 a m (fun z => lt d1[y']! z = false) (by omega) hp2 (fun x' hx1 hx2 => hx x' y' hx1 hx2 hy1 hy2) x h1 h2'
/-- one element put into the sorted piece behind it -/
theorem sym_one (hS : SWO lt) {d d1 : Array α} {a b e : Nat} (hb : b ≤ d.size) (hae : a + 1 ≤ e) (heb : e ≤ b) (hB : SortedIn lt (a + 1) b d) (hL : e = b ∨ lt d[e]! d[a]! = false) (hR : e = a + 1 ∨ lt d[e - 1]! d[a]! = true) (hr : RotOf d d1 a (a + 1) e) :
    PermIn a b d d1 ∧ SortedIn lt a b d1 := by
  have hA : SortedIn lt a (a + 1) d := fun i j h1 h2 h3 => by omega
  refine ⟨permIn_mono _ _ _ _ _ _ (Nat.le_refl _) heb hb hr.1, ?_⟩
  obtain ⟨_, p2, p3, p4, px⟩ := sym_split hS hb (Nat.le_refl a) (by omega) hae heb hA hB (.inl rfl) (by rcases hR with h | h; exact .inr (.inl h); exact .inr (.inr h)) hr
  refine sorted_glue p2 (sorted_glue p3 p4 fun x y h1 h2 h3 h4 => ?_) (fun x y h1 h2 h3 h4 => px x y h1 h2 h3 h4)
  -- x is the one element
  have hxe : x = e - 1 := by omega
  have gx : d1[x]! = d[a]! := by rw [hr.2 x (by omega)]; congr 1; unfold rx; (repeat' split) <;> omega
  have gy : d1[y]! = d[y]! := by rw [hr.2 y (by omega)]; congr 1; unfold rx; (repeat' split) <;> omega
  rw [gx, gy]
  rcases hL with h | h
  · omega
  · rcases Nat.eq_or_lt_of_le h3 with h' | h'
    · rw [← h']; exact h
    · exact hS.ntrans _ _ _ (hB e y hae h' h4) h
/-- one element put into the sorted piece ahead of it -/
theorem sym_last (hS : SWO lt) {d d1 : Array α} {a m s : Nat} (hb : m + 1 ≤ d.size) (has : a ≤ s) (hsm : s ≤ m) (hA : SortedIn lt a m d) (hL : s = a ∨ lt d[m]! d[s - 1]! = false) (hR : s = m ∨ lt d[m]! d[s]! = true) (hr : RotOf d d1 s m (m + 1)) :
    PermIn a (m + 1) d d1 ∧ SortedIn lt a (m + 1) d1 := by
  have hB : SortedIn lt m (m + 1) d := fun i j h1 h2 h3 => by omega
  refine ⟨permIn_mono _ _ _ _ _ _ has (Nat.le_refl _) hb hr.1, ?_⟩
  obtain ⟨p1, p2, p3, _, px⟩ := sym_split hS hb has hsm (by omega) (Nat.le_refl _) hA hB (.inr (.inl rfl)) (by rcases hR with h | h; exact .inl h; exact .inr (.inr h)) hr
  refine sorted_glue (sorted_glue p1 p2 fun x y h1 h2 h3 h4 => ?_) p3 (fun x y h1 h2 h3 h4 => px x y h1 h2 h3 h4)
  have gy : d1[y]! = d[m]! := by rw [hr.2 y (by omega)]; congr 1; unfold rx; (repeat' split) <;> omega
  have gx : d1[x]! = d[x]! := by rw [hr.2 x (by omega)]; congr 1; unfold rx; (repeat' split) <;> omega
  rw [gx, gy]
  rcases hL with h | h
  · omega
  · rcases Nat.eq_or_lt_of_le (show x ≤ s - 1 by omega) with h' | h'
    · rw [h']; exact h
    · exact hS.ntrans _ _ _ h (hA x (s - 1) h1 h' (by omega))
end Go.Proofs.YtcfbgelhggapjaaGreatDoor
/- Replica: the stable sort at records: the exchange of two ranges, the rotation. -/
namespace Go.Proofs.YtcfbgelhggapjaaGreatDoor
open Go.RowKit Go.Shelf Go.Sort Go.Lib
/-- what these walks ask of a program: its bodies, its types; a record has K cells -/
structure StP (P : Program) (K : Nat) : Prop where
  mixed : P.follows .mixedOrders = true
  t0 : P.underlying 0 = some (TypeDesc.tuple #[])
  a0 : ∀ w, (isAgg 0).run P w = .ok false w
  z0 : ∀ w, (Go.sizeOf 0).run P w = .ok 1 w
  v0 : ∀ w, (zeroValue 0).run P w = .ok (Value.tuple #[]) w
  t3 : P.underlying 3 = some (TypeDesc.int IntKind.i64)
  a3 : ∀ w, (isAgg 3).run P w = .ok false w
  z3 : ∀ w, (Go.sizeOf 3).run P w = .ok 1 w
  v3 : ∀ w, (zeroValue 3).run P w = .ok (Value.int IntKind.i64 0) w
  t4 : P.underlying 4 = some (TypeDesc.bool)
  a4 : ∀ w, (isAgg 4).run P w = .ok false w
  z4 : ∀ w, (Go.sizeOf 4).run P w = .ok 1 w
  v4 : ∀ w, (zeroValue 4).run P w = .ok (Value.bool false) w
  tR : P.underlying 23 = some (TypeDesc.slice 49)
  aR : ∀ w, (isAgg 23).run P w = .ok false w
  zR : ∀ w, (Go.sizeOf 23).run P w = .ok 1 w
  vR : ∀ w, (zeroValue 23).run P w = .ok (Value.slice none 0 0) w
  tC : P.underlying 72 = some (TypeDesc.func #[49, 49] #[3] false)
  aC : ∀ w, (isAgg 72).run P w = .ok false w
  zC : ∀ w, (Go.sizeOf 72).run P w = .ok 1 w
  vC : ∀ w, (zeroValue 72).run P w = .ok (Value.nilFunc) w
  tU : P.underlying 102 = some (TypeDesc.int IntKind.u64)
  aU : ∀ w, (isAgg 102).run P w = .ok false w
  zU : ∀ w, (Go.sizeOf 102).run P w = .ok 1 w
  vU : ∀ w, (zeroValue 102).run P w = .ok (Value.int IntKind.u64 0) w
  aE : ∀ w, (isAgg 49).run P w = .ok true w
  zE : ∀ w, (Go.sizeOf 49).run P w = .ok K w
  gSw : P.funcs[128]? = some Tryz.f128
  eSw : ∀ args w, (callFunc 128 args).run P w = .ok (.enter 128 args) w
  gRo : P.funcs[126]? = some Tryz.f126
  eRo : ∀ args w, (callFunc 126 args).run P w = .ok (.enter 126 args) w
  gSy : P.funcs[121]? = some Tryz.f121
  eSy : ∀ args w, (callFunc 121 args).run P w = .ok (.enter 121 args) w
set_option maxHeartbeats 4000000 in
set_option maxRecDepth 1000000 in
theorem g_swapRange {P : Program} {K : Nat} (L : StP P K) (blk off cap N a b n : Nat) (fv : Value) (d0 d : Array Rc) (w0 w : World) (hR : RowK cR K w0 blk off d0) (hN : d0.size = N) (hs : d.size = N) (hS : SWK cR K w0 blk off d w) (hab : a + n ≤ b) (hb : b + n ≤ N) (hsz : N < 2305843009213693952) :
    Calls P 128 #[.slice (some ⟨blk, off, none⟩) N cap, .int .i64 a, .int .i64 b, .int .i64 n, fv] w fun e w' => e = .returned (.tuple #[]) ∧ ∃ d', SwrOf d d' a b n ∧ SWK cR K w0 blk off d' w' := by
  have R : Aside (RowK cR K w0 blk off d0) := hR
  have S0 : Aside (SWK cR K w0 blk off d w) := hS
  clear hR hS
  have mixed := L.mixed; have t0 := L.t0; have a0 := L.a0; have z0 := L.z0; have v0 := L.v0; have t3 := L.t3; have a3 := L.a3; have z3 := L.z3; have v3 := L.v3; have t4 := L.t4; have a4 := L.a4; have z4 := L.z4; have v4 := L.v4; have tR := L.tR; have aR := L.aR; have zR := L.zR; have vR := L.vR; have tC := L.tC; have aC := L.aC; have zC := L.zC; have vC := L.vC; have tU := L.tU; have aU := L.aU; have zU := L.zU; have vU := L.vU; have aE := L.aE; have zE := L.zE; have eSw := L.eSw; have eRo := L.eRo; have eSy := L.eSy
  go_enter L.gSw, Tryz.ntmps128
  go_wp2
  go_loopg [10] n (fun kx s10 wr => ∃ (i : Nat) (dk : Array Rc), s10 = .int .i64 i ∧ i ≤ n ∧ n - i ≤ kx ∧ dk.size = N ∧ Aside (SWK cR K w0 blk off dk wr) ∧ Hid (SwrOf d dk a b i))
  case atStart => exact ⟨0, d, rfl, Nat.zero_le _, Nat.le_refl _, hs, S0, swr_zero d a b⟩
  case round =>
    clear S0
    obtain ⟨i, dk, rfl, hin, hkx, hds, S1, HE⟩ := hrel
    by_cases hlt : i < n
    · have hltz : (i : Int) < (n : Int) := by omega
      go_wp2_with fail
      have ea3 : ((a : Int) + (i : Int)).toNat = a + i := by omega
      have pa3 : (0 : Int) ≤ (a : Int) + (i : Int) := by omega
      have ba3 : (a : Int) + (i : Int) < (N : Int) := by omega
      have ra3 : IntKind.i64.wrap ((a : Int) + (i : Int)) = (a : Int) + (i : Int) := by rw [IntKind.wrap_i64]; omega
      have ec3 : ((b : Int) + (i : Int)).toNat = b + i := by omega
      have pc3 : (0 : Int) ≤ (b : Int) + (i : Int) := by omega
      have bc3 : (b : Int) + (i : Int) < (N : Int) := by omega
      have rc3 : IntKind.i64.wrap ((b : Int) + (i : Int)) = (b : Int) + (i : Int) := by rw [IntKind.wrap_i64]; omega
      have S2 : Aside _ := S1.out.swapped R.out (a + i) (b + i) (by omega) (by omega)
      have l3a := S1.out.ld1 R.out (by omega) P (a + i) (by omega)
      have l3b := S1.out.ld1 R.out (by omega) P (b + i) (by omega)
      have s3a := S1.out.st1 R.out (by omega) P (a + i) (by omega) dk[b + i]!
      have s3b := S1.out.st2 R.out (by omega) P (a + i) (b + i) (by omega) (by omega) dk[b + i]! dk[a + i]!
      have n3a : (cR dk[a + i]!).length = K := R.out.hk _
      have n3b : (cR dk[b + i]!).length = K := R.out.hk _
      generalize cR dk[a + i]! = cI3 at S2 l3a s3b n3a
      generalize cR dk[b + i]! = cJ3 at S2 l3b s3a s3b n3b
      clear S1
      go_wp2_with fail
      go_big_region_o
      clear l3a l3b s3a s3b
      generalize (wr.drew.setCells blk (off + (a + i) * K) cJ3).setCells blk (off + (b + i) * K) cI3 = w2 at S2 ⊢
      go_wp2
      go_roundg (n - (i + 1))
      case measure => omega
      case rel =>
        have h := swr_step HE.out (by omega) (by omega)
        exact ⟨i + 1, swp dk (a + i) (b + i), by go_num, by omega, Nat.le_refl _, by rw [size_swp]; exact hds, S2, h⟩
    · have hltz : ¬ (i : Int) < (n : Int) := by omega
      have he : i = n := by omega
      have HQ : Hid (SwrOf d dk a b n) := by rw [← he]; exact HE
      clear he HE
      go_wp2
      go_end0
      exact ⟨rfl, dk, HQ.out, S1.out⟩
set_option maxHeartbeats 4000000 in
set_option maxRecDepth 1000000 in
theorem g_rotate {P : Program} {K : Nat} (L : StP P K) (blk off cap N a m b : Nat) (fv : Value) (d0 d : Array Rc) (w0 w : World) (hR : RowK cR K w0 blk off d0) (hN : d0.size = N) (hs : d.size = N) (hS : SWK cR K w0 blk off d w) (ham : a < m) (hmb : m < b) (hb : b ≤ N) (hsz : N < 2305843009213693952) :
    Calls P 126 #[.slice (some ⟨blk, off, none⟩) N cap, .int .i64 a, .int .i64 m, .int .i64 b, fv] w fun e w' => e = .returned (.tuple #[]) ∧ ∃ d', RotOf d d' a m b ∧ SWK cR K w0 blk off d' w' := by
  have R : Aside (RowK cR K w0 blk off d0) := hR
  have S0 : Aside (SWK cR K w0 blk off d w) := hS
  clear hR hS
  have z1 : ((m - a : Nat) : Int) = (m : Int) - (a : Int) := by omega
  have z2 : ((b - m : Nat) : Int) = (b : Int) - (m : Int) := by omega
  have HS0 : Hid (∀ d', RotOf d d' (m - (m - a)) m (m + (b - m)) → RotOf d d' a m b) := fun d' h => by
    rw [show m - (m - a) = a by omega, show m + (b - m) = b by omega] at h; exact h
  have mixed := L.mixed; have t0 := L.t0; have a0 := L.a0; have z0 := L.z0; have v0 := L.v0; have t3 := L.t3; have a3 := L.a3; have z3 := L.z3; have v3 := L.v3; have t4 := L.t4; have a4 := L.a4; have z4 := L.z4; have v4 := L.v4; have tR := L.tR; have aR := L.aR; have zR := L.zR; have vR := L.vR; have tC := L.tC; have aC := L.aC; have zC := L.zC; have vC := L.vC; have tU := L.tU; have aU := L.aU; have zU := L.zU; have vU := L.vU; have aE := L.aE; have zE := L.zE; have eSw := L.eSw; have eRo := L.eRo; have eSy := L.eSy
  go_enter L.gRo, Tryz.ntmps126
  go_wp2
  go_loopg [10, 11] (b - a) (fun kx s10 s11 wr => ∃ (i j : Nat) (dk : Array Rc), s10 = .int .i64 i ∧ s11 = .int .i64 j ∧ 0 < i ∧ 0 < j ∧ a + i ≤ m ∧ m + j ≤ b ∧ i + j ≤ kx ∧ dk.size = N ∧ Aside (SWK cR K w0 blk off dk wr) ∧ Hid (∀ d', RotOf dk d' (m - i) m (m + j) → RotOf d d' a m b))
  case atStart => exact ⟨m - a, b - m, d, by rw [z1], by rw [z2], by omega, by omega, by omega, by omega, by omega, hs, S0, HS0⟩
  case round =>
    clear S0 HS0 z1 z2
    obtain ⟨i, j, dk, rfl, rfl, hi0, hj0, him, hjb, hkx, hds, S1, HE⟩ := hrel
    have z3 : ((m - i : Nat) : Int) = (m : Int) - (i : Int) := by omega
    by_cases hij : i = j
    · subst hij
      have hq : ((i : Int) != (i : Int)) = false := by simp
      have hc := g_swapRange L blk off cap N (m - i) m i fv d0 dk w0 wr R.out hN hds S1.out (by omega) (by omega) hsz
      rw [z3] at hc
      clear S1 z3
      go_wp2_with (go_at_fn 128; refine hc.mono ?_; rintro e w1 ⟨rfl, d1, hw1, S2⟩)
      go_end0
      exact ⟨rfl, d1, HE.out _ (rot_last (by omega) hw1), S2⟩
    · have hq : ((i : Int) != (j : Int)) = true := by simp; omega
      by_cases hlt : j < i
      · have hltz : (j : Int) < (i : Int) := by omega
        have hc := g_swapRange L blk off cap N (m - i) m j fv d0 dk w0 wr R.out hN hds S1.out (by omega) (by omega) hsz
        rw [z3] at hc
        clear S1 z3 hij
        go_wp2_with (go_at_fn 128; refine hc.mono ?_; rintro e w1 ⟨rfl, d1, hw1, S2⟩)
        go_roundg (i - j + j)
        case measure => omega
        case rel =>
          have h1 : d1.size = N := by rw [hw1.1.1]; exact hds
          exact ⟨i - j, j, d1, by first | rfl | go_num | (congr 1; omega), rfl, by omega, hj0, by omega, hjb, Nat.le_refl _, h1, S2, (show Hid _ from fun d' h => rot_left HE.out him hjb (by omega) (by omega) hlt hw1 h)⟩
      · have hltz : ¬ (j : Int) < (i : Int) := by omega
        have z4 : ((m + j - i : Nat) : Int) = (m : Int) + (j : Int) - (i : Int) := by omega
        have hc := g_swapRange L blk off cap N (m - i) (m + j - i) i fv d0 dk w0 wr R.out hN hds S1.out (by omega) (by omega) hsz
        rw [z3, z4] at hc
        clear S1 z3 z4
        go_wp2_with (go_at_fn 128; refine hc.mono ?_; rintro e w1 ⟨rfl, d1, hw1, S2⟩)
        go_roundg (i + (j - i))
        case measure => omega
        case rel =>
          have h1 : d1.size = N := by rw [hw1.1.1]; exact hds
          exact ⟨i, j - i, d1, rfl, by first | rfl | go_num | (congr 1; omega), hi0, by omega, him, by omega, Nat.le_refl _, h1, S2, (show Hid _ from fun d' h => rot_right HE.out him hjb (by omega) (by omega) (by omega) hw1 h)⟩
end Go.Proofs.YtcfbgelhggapjaaGreatDoor
