/- More on a map with integer keys that the call itself has made: delete, len. -/
import Derived.Test.YtncdombfhcfobaaIMap
import Derived.Maps.OwnSet
namespace Go.Proofs.Ytncdombfhcfobaa
open Go.RowKit
def delL (k : Int) : List (Int × Value) → List (Int × Value)
  | [] => []
  | p :: l => if p.1 = k then l else p :: delL k l
theorem delL_sub (k : Int) : ∀ L, (delL k L).Sublist L
  | [] => List.Sublist.refl _
  | p :: L => by
    unfold delL
    split
    · exact List.sublist_cons_self _ _
    · exact (delL_sub k L).cons_cons p
theorem delL_none (k : Int) : ∀ L : List (Int × Value), k ∉ L.map (·.1) → delL k L = L
  | [], _ => rfl
  | p :: L, h => by
    simp only [List.map_cons, List.mem_cons, not_or] at h
    have hp : ¬ p.1 = k := fun e => h.1 e.symm
    simp only [delL, hp, if_false, delL_none k L h.2]
theorem delL_kv (k : Int) : ∀ (l : List MapEntry) (L : List (Int × Value)) (j : Nat), l.map kvOf = L.map kvIn → (L.map (·.1)).idxOf? k = some j → (l.eraseIdx j).map kvOf = (delL k L).map kvIn
  | [], [], _, _, h => by simp at h
  | [], _ :: _, _, h, _ => by simp at h
  | _ :: _, [], _, h, _ => by simp at h
  | e :: l, (a, u) :: L, j, h, hj => by
    simp only [List.map_cons, List.cons.injEq] at h
    obtain ⟨h1, h2⟩ := h
    by_cases hak : a = k
    · subst hak
      simp [List.idxOf?_cons] at hj
      subst hj
      simp [delL, h2]
    · simp only [List.map_cons, List.idxOf?_cons, beq_eq_false_iff_ne.2 hak] at hj
      cases hq : (L.map (·.1)).idxOf? k with
      | none => simp [hq] at hj
      | some q =>
        simp [hq] at hj
        subst hj
        have ih := delL_kv k l L q h2 hq
        simp only [delL, hak, if_false, List.eraseIdx_cons_succ, List.map_cons, h1, ih]
section
variable {P : Program} {w : World} {b : Nat} {L : List (Int × Value)}
/-- 'delete(m, k)' -/
theorem IM.run_delete (h : IM w b L) {t kt e : TypeId} (ht : P.underlying t = some (.map kt e)) (hkt : P.underlying kt = some (.int .i64)) (k : Int) (ty : TypeId) :
    ∃ w', (Builtin.delete_ #[t, kt] ty #[.map (some b), .int .i64 k]).run P w = .ok (.tuple #[]) w' ∧ IM w' b (delL k L) ∧ w.grownBy w' (some b) ∧ w'.heap.size = w.heap.size := by
  obtain ⟨es, clock, hb, hkv, hnd, hbn, hbc⟩ := h
  have hlt := (Array.getElem?_eq_some_iff.1 hb).1
  have hck : ∀ x, (Instr.checkKey x 10000 kt (.int .i64 k)).run P w = .ok () w := fun x => by
    unfold Instr.checkKey
    simp [run_underlying hkt]
  have hs := lookup_isSome_iff k L
  have hfk := findKey_kv (w := w) hkt hkv k
  have hset : ∀ (o : Obj), (setObj b o).run P w = .ok () (w.putObj b o) := fun o => MapKept.run_setObj_map o hb
  have hput : ∀ (o : Obj), w.grownBy (w.putObj b o) (some b) := fun o => ⟨rfl, rfl, rfl, by simp [World.putObj], fun j _ hj => World.putObj_heap_other (by rintro rfl; exact hj rfl)⟩
  have hnd' : ((delL k L).map (·.1)).Nodup := ((delL_sub k L).map _).nodup hnd
  cases hl : L.lookup k with
  | none =>
    have hi : (L.map (·.1)).idxOf? k = none := by rw [hl] at hs; simpa using hs.symm
    have hm : k ∉ L.map (·.1) := List.idxOf?_eq_none_iff.1 hi
    rw [hi] at hfk
    simp only [Option.bind_none] at hfk
    refine ⟨_, by simp [Builtin.delete_, Sem.run_bind, run_underlying ht, Result.andThen_ok, MapKept.run_getObj_map hb, hck, hfk, hset], ⟨es, clock, World.putObj_heap_same hlt, ?_, hnd', hbn, hbc⟩, hput _, by simp [World.putObj]⟩
    rw [delL_none k L hm]; exact hkv
  | some u =>
    have hi : ((L.map (·.1)).idxOf? k).isSome = true := by rw [← hs, hl]; rfl
    obtain ⟨j, hj⟩ := Option.isSome_iff_exists.1 hi
    rw [hj, hl] at hfk
    simp only [Option.bind_some, Option.map_some, Nat.zero_add] at hfk
    refine ⟨_, by simp [Builtin.delete_, Sem.run_bind, run_underlying ht, Result.andThen_ok, MapKept.run_getObj_map hb, hck, hfk, hset]; rfl, ⟨_, clock, World.putObj_heap_same hlt, ?_, hnd', ?_, ?_⟩, hput _, by simp [World.putObj]⟩
    · rw [Array.toList_eraseIdxIfInBounds]
      exact delL_kv k es.toList L j hkv hj
    · rw [Array.toList_eraseIdxIfInBounds]
      exact ((List.eraseIdx_sublist _ _).map _).nodup hbn
    · intro x hx
      rw [Array.toList_eraseIdxIfInBounds] at hx
      exact hbc x ((List.eraseIdx_sublist _ _).subset hx)
end
section
variable {P : Program} {w : World} {ops : Array Oper} {rest : List Oper} {o : Oper} {a : Act} {Q : Exit → Act → World → Prop} {b : Nat} {L : List (Int × Value)}
theorem wpList_delete_im (hg : o.guard = none) (m x : Operand) (t kt : TypeId) (hop : o.op = Op.call { callee := Callee.builtin Builtin.delete, args := #[m, x], argTypes := #[t, kt] })
    (e : TypeId) (ht : P.underlying t = some (.map kt e)) (hkt : P.underlying kt = some (.int .i64))
    (hm : a.eval m = .map (some b)) (h : IM w b L) (k : Int) (hx : a.eval x = .int .i64 k)
    (hK : ∀ w', IM w' b (delL k L) → w.grownBy w' (some b) → w'.heap.size = w.heap.size → wpList P ops Q rest (a.put o.dst (.tuple #[])) w') : wpList P ops Q (o :: rest) a w := by
  refine wpList_plain hg fun K' hK' => ?_
  obtain ⟨w', hrun, r1, r2, r3⟩ := h.run_delete ht hkt k o.type
  unfold Oper.wp execOp
  simp only [hop, resolve, invoke, builtin, Sem.run_bind, Sem.run_pure, Result.andThen_ok, List.map_toArray, List.map_cons, List.map_nil, hm, hx, hrun]
  exact hK' _ _ (hK w' r1 r2 r3)
end
section
variable {P : Program} {w : World} {ops : Array Oper} {rest : List Oper} {o : Oper} {a : Act} {Q : Exit → Act → World → Prop} {b : Nat} {L : List (Int × Value)}
theorem IM.run_len (h : IM w b L) {t kt e : TypeId} (ht : P.underlying t = some (.map kt e)) (ty : TypeId) : (Builtin.len_ #[t] ty #[.map (some b)]).run P w = .ok (.int .i64 L.length) w := by
  obtain ⟨es, clock, hb, hkv, hnd, hbn, hbc⟩ := h
  have hlen : es.size = L.length := by have := congrArg List.length hkv; simpa using this
  simp [Builtin.len_, Sem.run_bind, run_underlying ht, Result.andThen_ok, MapKept.run_getObj_map hb, goInt, hlen]
theorem wpList_len_im (hg : o.guard = none) (m : Operand) (t : TypeId) (hop : o.op = Op.call { callee := Callee.builtin Builtin.len, args := #[m], argTypes := #[t] })
    (k e : TypeId) (ht : P.underlying t = some (.map k e)) (hm : a.eval m = .map (some b)) (h : IM w b L)
    (hK : wpList P ops Q rest (a.put o.dst (.int .i64 L.length)) w) : wpList P ops Q (o :: rest) a w := by
  refine wpList_plain hg fun K' hK' => ?_
  unfold Oper.wp
  simp [execOp, hop, resolve, invoke, builtin, hm, h.run_len ht o.type, Result.andThen]
  exact hK' _ _ hK
end
end Go.Proofs.Ytncdombfhcfobaa
