/- In a region that draws its order, a call that leaves the world as it was may be taken first. -/
import Derived.Test.YtncdombfhcfobaaRg
import Derived.OrdersHeld
namespace Go.Proofs.Ytncdombfhcfobaa
open Go.RowKit
section
variable {P : Program} {ops : Array Oper} {Q : Exit → Act → World → Prop} {md : Region.Mode} {S : World → Prop}
/-- in every world of S the step x comes to v and leaves the world as it is: by itself, or by a call -/
def Gives (P : Program) (S : World → Prop) (v : Value) (x : Sem Next) : Prop :=
  ∀ w, S w → x.run P w = .ok (.value v) w ∨ ∃ f args, x.run P w = .ok (.enter f args) w ∧ Calls P f args w fun e w' => e = .returned v ∧ w = w'
/-- operation o is wanted in this state, and its step is x -/
def Asks (ops : Array Oper) (o : Oper) (x : Sem Next) (a : Act) : Prop := Region.wanted o (yielded ops a.tmps) = true ∧ execOp a.eval o = x
theorem Asks.put {o : Oper} {x : Sem Next} {a : Act} (h : Asks ops o x a) (hs : ∀ cs b, o.op ≠ .select cs b) {d : Option Tmp} (hd : ∀ t, d = some t → t ∉ o.looksAt ops) (u : Value) : Asks ops o x (a.put d u) :=
  ⟨(wanted_put o a d u hd).trans h.1, (execOp_put o hs a d u hd).trans h.2⟩
theorem Asks.defers {o : Oper} {x : Sem Next} {a : Act} (h : Asks ops o x a) (d : List Deferred) : Asks ops o x { a with defers := d } := ⟨h.1, h.2⟩
theorem Asks.wpOp {i : Nat} {o : Oper} {v : Value} {x : Sem Next} {a : Act} {w : World} (hi : ops[i]? = some o) (h : Asks ops o x a) (hg : Gives P S v x) (hS : S w) {K : Act → World → Prop} (hK : K (a.put o.dst v) w) : wpOp P ops Q i K a w := by
  unfold Go.wpOp
  simp only [hi, h.1, if_true]
  refine .inl ?_
  unfold Oper.wp
  rw [h.2]
  rcases hg w hS with e | ⟨f, args, e, hc⟩ <;> rw [e]
  · exact hK
  · exact Calls.mono hc fun e w' ⟨he, hw⟩ => by subst he; subst hw; exact hK
theorem wpOp_late {j : Nat} {oi oj : Oper} {v : Value} {x : Sem Next} (hj : ops[j]? = some oj) (hap : oi.apart ops oj = true) (hsi : ∀ cs b, oi.op ≠ .select cs b) (hsj : ∀ cs b, oj.op ≠ .select cs b)
    (hQ : ∀ c a w, Q (.panic c) (a.put oi.dst v) w → Q (.panic c) a w) {K : Act → World → Prop} {a : Act} {w : World} (hy : Asks ops oi x a) (h : wpOp P ops Q j K (a.put oi.dst v) w) :
    wpOp P ops Q j (fun a' w' => Asks ops oi x a' ∧ K (a'.put oi.dst v) w') a w := by
  obtain ⟨h1, h2, h3⟩ := Oper.apart_spec hap
  have on : ∀ (b : Act) (u : Value) (w' : World), Asks ops oi x b → K ((b.put oi.dst v).put oj.dst u) w' → Asks ops oi x (b.put oj.dst u) ∧ K ((b.put oj.dst u).put oi.dst v) w' := fun b u w' hb hk =>
    ⟨hb.put hsi h3 u, by rw [← Act.put_comm b v u h2]; exact hk⟩
  unfold wpOp at h ⊢
  simp only [hj] at h ⊢
  rw [wanted_put oj a oi.dst v h1] at h
  by_cases hw : Region.wanted oj (yielded ops a.tmps) = true
  · simp only [hw, if_true] at h ⊢
    rcases h with h | ⟨hk, hl⟩
    · refine .inl ?_
      unfold Oper.wp at h ⊢
      rw [execOp_put oj hsj a oi.dst v h1] at h
      revert h
      generalize (execOp a.eval oj).run P w = r
      intro h
      rcases r with ⟨n, w'⟩ | ⟨y, w'⟩
      · cases n with
        | value u => exact on a u w' hy h
        | skip => exact on a undef w' hy h
        | defer d =>
          refine on _ undef w' (hy.defers _) ?_
          rw [← Act.put_defers]
          exact h
        | enter f args =>
          refine Calls.mono h fun e w2 he => ?_
          cases e with
          | returned u => exact on a u w2 hy he
          | panicked c => exact hQ _ _ _ he
          | outgrown => exact he
        | row rw' args => exact Rows.mono h fun u w2 he => on a u w2 hy he
        | _ => exact h
      · cases y with
        | panic u => exact hQ _ _ _ h
        | _ => exact h
    · refine .inr ⟨?_, hl⟩
      unfold Oper.asks at hk ⊢
      rw [execOp_put oj hsj a oi.dst v h1] at hk
      exact hk
  · simp only [hw] at h ⊢
    exact on a undef w hy h
theorem wpAnyH_quiet {i : Nat} {oi : Oper} {v : Value} {x : Sem Next} (hi : ops[i]? = some oi) (hsel : Region.noSelect ops = true) (hQ : ∀ c a w, Q (.panic c) (a.put oi.dst v) w → Q (.panic c) a w) (hg : Gives P S v x) :
    ∀ (fuel : Nat) (listed : Array Bool) (a : Act) (w : World),
      (∀ j oj, ops[j]? = some oj → j ≠ i → listed.getD j true = false → (∀ e ∈ oj.after, Region.binds md e = true → e.on ≠ i) → oi.apart ops oj = true) →
      i ∈ Region.ready md ops listed → Asks ops oi x a → S w →
      wpAnyH P md ops Q S fuel (listed.setIfInBounds i true) (a.put oi.dst v) w → wpAnyH P md ops Q S (fuel + 1) listed a w := by
  intro fuel
  induction fuel with
  | zero =>
    intro listed a w _ hr hy hS H
    refine ⟨fun h => (by rw [h] at hr; cases hr), fun j hj => ?_⟩
    rcases Nat.decEq j i with hji | hji
    · have := ready_mono hj hji
      rw [H.1] at this
      cases this
    · subst hji; exact hy.wpOp hi hg hS ⟨hS, H⟩
  | succ fuel ih =>
    intro listed a w hfree hr hy hS H
    refine ⟨fun h => (by rw [h] at hr; cases hr), fun j hj => ?_⟩
    rcases Nat.decEq j i with hji | hji
    · obtain ⟨hun, oj, hoj, hall⟩ := mem_ready.1 hj
      have hnot : ∀ e ∈ oj.after, Region.binds md e = true → e.on ≠ i := fun e he hb heq => by
        have p1 := hall e he hb
        have p0 := (mem_ready.1 hr).1
        rw [heq] at p1
        by_cases hsz : i < listed.size
        · simp [hsz] at p0 p1; rw [p0] at p1; cases p1
        · simp [Array.getElem?_eq_none (Nat.le_of_not_lt hsz)] at p1
      have p2 := wpOp_late hoj (hfree j oj hoj hji hun hnot) (fun cs b => Region.noSelect_spec hsel i oi cs b hi) (fun cs b => Region.noSelect_spec hsel j oj cs b hoj) hQ hy (H.2 j (ready_mono hj hji))
      refine wpOp_mono (fun a' w' ⟨q1, q2, q3⟩ => ⟨q2, ih (listed.setIfInBounds j true) a' w' (fun k ok hk hki hunk hno => hfree k ok hk hki ?_ hno) (ready_mono hr (Ne.symm hji)) q1 q2 ?_⟩) p2
      · by_cases hjk : j = k
        · subst hjk; exact hun
        · rw [getD_set_ne true hjk] at hunk; exact hunk
      · rw [Array.setIfInBounds_comm _ _ hji]
        exact q3
    · subst hji; exact hy.wpOp hi hg hS ⟨hS, H⟩
theorem wpAnyH_call {i : Nat} {oi : Oper} {v : Value} {f : FuncId} {args : Array Value} {fuel : Nat} {listed : Array Bool} {a : Act} {w : World} (hi : ops[i]? = some oi) (hs : Region.noSelect ops = true) (hf : Region.free md ops listed i = true) (hr : (Region.ready md ops listed).contains i = true)
    (hQ : ∀ c a w, Q (.panic c) (a.put oi.dst v) w → Q (.panic c) a w) (hw : Region.wanted oi (yielded ops a.tmps) = true) (he : ∀ w, S w → (execOp a.eval oi).run P w = .ok (.enter f args) w) (hc : ∀ w, S w → Calls P f args w fun e w' => e = .returned v ∧ w = w') (hS : S w)
    (h : wpAnyH P md ops Q S fuel (listed.setIfInBounds i true) (a.put oi.dst v) w) : wpAnyH P md ops Q S (fuel + 1) listed a w :=
  wpAnyH_quiet hi hs hQ (fun w hw' => .inr ⟨f, args, he w hw', hc w hw'⟩) fuel listed a w (Region.free_spec hi hf) (by simpa using hr) ⟨hw, rfl⟩ hS h
end
end Go.Proofs.Ytncdombfhcfobaa
/- A region that draws its order, whose operations may make memory: each operation is walked once, in whatever world, from what those that it waits for have left; what they leave abides what the others do. -/
namespace Go.Proofs.Ytncdombfhcfobaa
open Go.RowKit
section
variable {P : Program} {Q : Exit → Act → World → Prop}
/-- the values of all operations, in the frame -/
def putsA (vals : Nat → Value) : List Oper → Nat → Act → Act
  | [], _, a => a
  | o :: l, k, a => putsA vals l (k + 1) (a.put o.dst (vals k))
def updV (vals : Nat → Value) (i : Nat) (v : Value) : Nat → Value := fun j => if j = i then v else vals j
theorem put_put (a : Act) (d : Option Tmp) (u v : Value) : (a.put d u).put d v = a.put d v := by
  cases d with
  | none => rfl
  | some t => simp [Act.put, Array.setIfInBounds_setIfInBounds]
theorem putsA_put (vals : Nat → Value) (d : Option Tmp) (v : Value) : ∀ (l : List Oper) (k : Nat) (a : Act), (∀ o ∈ l, ∀ t, d = some t → o.dst ≠ some t) → putsA vals l k (a.put d v) = (putsA vals l k a).put d v
  | [], _, _, _ => rfl
  | o :: l, k, a, h => by
    show putsA vals l (k + 1) ((a.put d v).put o.dst (vals k)) = (putsA vals l (k + 1) (a.put o.dst (vals k))).put d v
    rw [Act.put_comm a v (vals k) (h o (by simp)), putsA_put vals d v l (k + 1) _ (fun o' ho' => h o' (List.mem_cons_of_mem _ ho'))]
theorem putsA_same (vals vals' : Nat → Value) : ∀ (l : List Oper) (k : Nat) (a : Act), (∀ j, k ≤ j → vals j = vals' j) → putsA vals l k a = putsA vals' l k a
  | [], _, _, _ => rfl
  | o :: l, k, a, h => by
    show putsA vals l (k + 1) _ = putsA vals' l (k + 1) _
    rw [h k (Nat.le_refl _), putsA_same vals vals' l (k + 1) _ (fun j hj => h j (by omega))]
def dstsApart : List Oper → Bool
  | [] => true
  | o :: l => (l.all fun o' => o.dst.isNone || o'.dst != o.dst) && dstsApart l
theorem putsA_upd (vals : Nat → Value) (v : Value) : ∀ (l : List Oper) (k i : Nat) (o : Oper) (a : Act), dstsApart l = true → l[i]? = some o → putsA (updV vals (k + i) v) l k a = (putsA vals l k a).put o.dst v
  | [], _, _, _, _, _, h => by simp at h
  | o' :: l, k, 0, o, a, hd, h => by
    simp only [List.getElem?_cons_zero, Option.some.injEq] at h
    subst h
    simp only [dstsApart, Bool.and_eq_true, List.all_eq_true] at hd
    have hne : ∀ x ∈ l, ∀ t, o'.dst = some t → x.dst ≠ some t := fun x hx t ht => by
      have := hd.1 x hx
      rw [ht] at this
      simpa using this
    show putsA (updV vals (k + 0) v) l (k + 1) (a.put o'.dst (updV vals (k + 0) v k)) = (putsA vals l (k + 1) (a.put o'.dst (vals k))).put o'.dst v
    rw [putsA_same (updV vals (k + 0) v) vals l (k + 1) _ (fun j hj => by simp only [updV, Nat.add_zero]; rw [if_neg (by omega)]), show updV vals (k + 0) v k = v by simp [updV]]
    rw [← putsA_put vals _ _ l (k + 1) _ hne, put_put]
  | o' :: l, k, i + 1, o, a, hd, h => by
    simp only [dstsApart, Bool.and_eq_true] at hd
    have ih := putsA_upd vals v l (k + 1) i o (a.put o'.dst (vals k)) hd.2 (by simpa using h)
    show putsA (updV vals (k + (i + 1)) v) l (k + 1) (a.put o'.dst (updV vals (k + (i + 1)) v k)) = _
    rw [show updV vals (k + (i + 1)) v k = vals k by simp only [updV]; rw [if_neg (by omega)], show k + (i + 1) = k + 1 + i by omega, ih]
    rfl
theorem put_self (a : Act) (d : Option Tmp) : a.put d (match d with | some t => a.tmps.getD t undef | none => undef) = a := by
  cases d with
  | none => rfl
  | some t =>
    obtain ⟨tm, df⟩ := a
    simp only [Act.put, Act.mk.injEq, and_true]
    refine Array.ext (by simp) (fun i h1 h2 => ?_)
    rw [Array.getElem_setIfInBounds]
    split
    · rename_i e
      subst e
      simp [Array.getD, h2]
    · rfl
theorem putsA_start (a : Act) : ∀ (l : List Oper) (k : Nat), ∃ vals, putsA vals l k a = a
  | [], _ => ⟨fun _ => undef, rfl⟩
  | o :: l, k => by
    obtain ⟨vals, h⟩ := putsA_start a l (k + 1)
    refine ⟨updV vals k (match o.dst with | some t => a.tmps.getD t undef | none => undef), ?_⟩
    show putsA (updV vals k _) l (k + 1) (a.put o.dst (updV vals k _ k)) = a
    rw [putsA_same _ vals l (k + 1) _ (fun j hj => by simp only [updV]; rw [if_neg (by omega)]), show ∀ u, updV vals k u k = u from fun u => by simp [updV], put_self, h]
/-- the same over the list of the slots -/
def putsL (vals : Nat → Value) : List Oper → Nat → List Value → List Value
  | [], _, L => L
  | o :: l, k, L => putsL vals l (k + 1) (match o.dst with | some t => L.set t (vals k) | none => L)
theorem putsA_list (vals : Nat → Value) : ∀ (l : List Oper) (k : Nat) (L : List Value) (d : List Deferred), putsA vals l k { tmps := L.toArray, defers := d } = { tmps := (putsL vals l k L).toArray, defers := d }
  | [], _, _, _ => rfl
  | o :: l, k, L, d => by
    show putsA vals l (k + 1) (Act.put _ o.dst (vals k)) = { tmps := (putsL vals l (k + 1) _).toArray, defers := d }
    rw [← putsA_list vals l (k + 1)]
    congr 1
    cases o.dst with
    | none => rfl
    | some t => simp [Act.put]
/-- the operations that o waits for in every order -/
def depsOf (o : Oper) : List Nat := (o.after.toList.filter (Region.binds .any)).map (·.on)
def earlier : List Oper → Nat → Bool
  | [], _ => true
  | o :: l, k => (depsOf o).all (fun j => decide (j < k)) && earlier l (k + 1)
theorem earlier_spec : ∀ (l : List Oper) (k i : Nat) (o : Oper), earlier l k = true → l[i]? = some o → ∀ j ∈ depsOf o, j < k + i
  | [], _, _, _, _, h => by simp at h
  | o' :: l, k, 0, o, he, h => by
    simp only [List.getElem?_cons_zero, Option.some.injEq] at h
    subst h
    simp only [earlier, Bool.and_eq_true, List.all_eq_true, decide_eq_true_eq] at he
    exact he.1
  | o' :: l, k, i + 1, o, he, h => by
    simp only [earlier, Bool.and_eq_true] at he
    intro j hj
    have := earlier_spec l (k + 1) i o he.2 (by simpa using h) j hj
    omega
theorem filt_lt (p p' : Nat → Bool) (h : ∀ j, p' j = true → p j = true) : ∀ l : List Nat, (l.filter p').length ≤ (l.filter p).length ∧ ((∃ i ∈ l, p i = true ∧ p' i = false) → (l.filter p').length < (l.filter p).length)
  | [] => ⟨Nat.le_refl _, fun ⟨i, hi, _⟩ => by cases hi⟩
  | j :: l => by
    obtain ⟨h1, h2⟩ := filt_lt p p' h l
    by_cases hp' : p' j = true
    · have hp := h j hp'
      simp only [List.filter_cons, hp, hp', if_true, List.length_cons]
      refine ⟨by omega, fun ⟨i, hi, a, b⟩ => ?_⟩
      rcases List.mem_cons.1 hi with rfl | hi
      · rw [hp'] at b; cases b
      · have := h2 ⟨i, hi, a, b⟩; omega
    · have hp0 : p' j = false := by simpa using hp'
      by_cases hp : p j = true
      · simp only [List.filter_cons, hp, hp0, if_true, List.length_cons]
        exact ⟨Nat.le_succ_of_le h1, fun _ => Nat.lt_succ_of_le h1⟩
      · have hp1 : p j = false := by simpa using hp
        simp only [List.filter_cons, hp1, hp0]
        refine ⟨by simpa using h1, fun ⟨i, hi, a, b⟩ => ?_⟩
        rcases List.mem_cons.1 hi with rfl | hi
        · rw [hp1] at a; cases a
        · simpa using h2 ⟨i, hi, a, b⟩
def isDst (l : List Oper) (t : Nat) : Bool := l.any fun o => o.dst == some t
theorem putsA_other (vals : Nat → Value) (t : Nat) : ∀ (l : List Oper) (k : Nat) (a : Act), isDst l t = false → (putsA vals l k a).tmps[t]? = a.tmps[t]?
  | [], _, _, _ => rfl
  | o :: l, k, a, h => by
    simp only [isDst, List.any_cons, Bool.or_eq_false_iff] at h
    show (putsA vals l (k + 1) (a.put o.dst (vals k))).tmps[t]? = _
    rw [putsA_other vals t l (k + 1) _ h.2]
    cases hd : o.dst with
    | none => rfl
    | some d =>
      have : d ≠ t := fun e => by rw [hd, e] at h; simp at h
      simp only [Act.put]
      exact Array.getElem?_setIfInBounds_ne this
theorem putsA_size (vals : Nat → Value) : ∀ (l : List Oper) (k : Nat) (a : Act), (putsA vals l k a).tmps.size = a.tmps.size
  | [], _, _ => rfl
  | o :: l, k, a => by
    show (putsA vals l (k + 1) (a.put o.dst (vals k))).tmps.size = _
    rw [putsA_size vals l (k + 1)]
    cases o.dst <;> simp [Act.put]
def dstsIn (l : List Oper) (n : Nat) : Bool := l.all fun o => match o.dst with | some t => decide (t < n) | none => true
theorem putsA_at (vals : Nat → Value) : ∀ (l : List Oper) (k i : Nat) (o : Oper) (t : Nat) (a : Act), dstsApart l = true → dstsIn l a.tmps.size = true → l[i]? = some o → o.dst = some t → (putsA vals l k a).tmps[t]? = some (vals (k + i))
  | [], _, _, _, _, _, _, _, h, _ => by simp at h
  | o' :: l, k, 0, o, t, a, hd, hn, h, ht => by
    simp only [List.getElem?_cons_zero, Option.some.injEq] at h
    subst h
    simp only [dstsApart, Bool.and_eq_true, List.all_eq_true] at hd
    simp only [dstsIn, List.all_cons, Bool.and_eq_true, ht, decide_eq_true_eq] at hn
    show (putsA vals l (k + 1) (a.put o'.dst (vals k))).tmps[t]? = _
    rw [putsA_other]
    · rw [ht]; simp [Act.put, hn.1]
    · simp only [isDst, List.any_eq_false, beq_iff_eq]
      intro x hx e
      have := hd.1 x hx
      rw [ht, e] at this
      simp at this
  | o' :: l, k, i + 1, o, t, a, hd, hn, h, ht => by
    simp only [dstsApart, Bool.and_eq_true] at hd
    simp only [dstsIn, List.all_cons, Bool.and_eq_true] at hn
    have ih := putsA_at vals l (k + 1) i o t (a.put o'.dst (vals k)) hd.2 (by
      have : (a.put o'.dst (vals k)).tmps.size = a.tmps.size := by cases o'.dst <;> simp [Act.put]
      rw [this]; exact hn.2) (by simpa using h) ht
    rw [show k + (i + 1) = k + 1 + i by omega]
    exact ih
def AtD (D : List (Option Nat)) (b : Act) (j : Nat) (v : Value) : Prop :=
  match D[j]? with
  | some (some t) => b.tmps[t]? = some v
  | _ => True
def YesD (D : List (Option Nat)) (y : Nat → Option Bool) (j : Nat) (v : Value) : Prop :=
  match D[j]? with
  | some (some _) => ∀ x, v = .bool x → y j = some x
  | _ => True
def FrOk (b : Act) : List (Nat × Value) → Prop
  | [] => True
  | p :: l => b.tmps[p.1]? = some p.2 ∧ FrOk b l
/-- one operation: from what those that it waits for have left -/
def StepR (P : Program) (D : List (Option Nat)) (fr : List (Nat × Value)) (Q : Exit → Act → World → Prop) (G : Nat → World → World → Prop) (I : World → Prop) (ds : Nat → List Nat) (R : Nat → List Value → Value → World → Prop) (i : Nat) (o : Oper) : Prop :=
  ∀ (b : Act) (vals : Nat → Value) (y : Nat → Option Bool) (w : World), I w → FrOk b fr → (∀ j ∈ depsOf o, AtD D b j (vals j) ∧ R j ((ds j).map vals) (vals j) w ∧ YesD D y j (vals j)) →
    ∀ K : Act → World → Prop, Hid (∀ v w', (R i ((ds i).map vals) v w' ∧ G i w w' ∧ I w') → K (b.put o.dst v) w') →
    if Region.wanted o y = true then Oper.wp P o b w K Q else K (b.put o.dst undef) w
def StepsR (P : Program) (D : List (Option Nat)) (fr : List (Nat × Value)) (Q : Exit → Act → World → Prop) (G : Nat → World → World → Prop) (I : World → Prop) (ds : Nat → List Nat) (R : Nat → List Value → Value → World → Prop) : List Oper → Nat → Prop
  | [], _ => True
  | o :: l, i => StepR P D fr Q G I ds R i o ∧ StepsR P D fr Q G I ds R l (i + 1)
theorem frOk_put {l : List Oper} {vals : Nat → Value} {a : Act} : ∀ fr : List (Nat × Value), fr.all (fun p => !isDst l p.1) = true → FrOk a fr → FrOk (putsA vals l 0 a) fr
  | [], _, _ => trivial
  | p :: fr, h, ha => by
    simp only [List.all_cons, Bool.and_eq_true, Bool.not_eq_true'] at h
    exact ⟨(putsA_other vals p.1 l 0 a h.1).trans ha.1, frOk_put fr (by simpa using h.2) ha.2⟩
/-- the operations whose values a fact names are among those that it waits for -/
def linksOk (ds : Nat → List Nat) : List Oper → Nat → Bool
  | [], _ => true
  | o :: l, k => ((ds k).all fun j => (depsOf o).contains j) && linksOk ds l (k + 1)
theorem linksOk_spec (ds : Nat → List Nat) : ∀ (l : List Oper) (k i : Nat) (o : Oper), linksOk ds l k = true → l[i]? = some o → ∀ j ∈ ds (k + i), j ∈ depsOf o
  | [], _, _, _, _, h => by simp at h
  | o' :: l, k, 0, o, he, h => by
    simp only [List.getElem?_cons_zero, Option.some.injEq] at h
    subst h
    simp only [linksOk, Bool.and_eq_true, List.all_eq_true] at he
    intro j hj
    simpa using he.1 j hj
  | o' :: l, k, i + 1, o, he, h => by
    simp only [linksOk, Bool.and_eq_true] at he
    have := linksOk_spec ds l (k + 1) i o he.2 (by simpa using h)
    rwa [show k + 1 + i = k + (i + 1) by omega] at this
theorem StepsR.get {D : List (Option Nat)} {fr : List (Nat × Value)} {G : Nat → World → World → Prop} {I : World → Prop} {ds : Nat → List Nat} {R : Nat → List Value → Value → World → Prop} : ∀ (l : List Oper) (k i : Nat) (o : Oper), StepsR P D fr Q G I ds R l k → l[i]? = some o → StepR P D fr Q G I ds R (k + i) o
  | [], _, _, _, _, h => by simp at h
  | o' :: l, k, 0, o, hs, h => by
    simp only [List.getElem?_cons_zero, Option.some.injEq] at h
    subst h
    exact hs.1
  | o' :: l, k, i + 1, o, hs, h => by
    have := StepsR.get l (k + 1) i o hs.2 (by simpa using h)
    rwa [show k + 1 + i = k + (i + 1) by omega] at this
theorem rely_any {l : List Oper} {G : Nat → World → World → Prop} {I : World → Prop} {ds : Nat → List Nat} {R : Nat → List Value → Value → World → Prop} {a : Act} (hA : dstsApart l = true) (hE : earlier l 0 = true) (hN : dstsIn l a.tmps.size = true) (hL : linksOk ds l 0 = true) {D : List (Option Nat)} {fr : List (Nat × Value)} (hD : l.map (·.dst) = D) (hF : fr.all (fun p => !isDst l p.1) = true) (hfa : FrOk a fr)
    (hRG : ∀ i k us v w w', k ≠ i → R i us v w → G k w w' → R i us v w') (hs : StepsR P D fr Q G I ds R l 0)
    (hend : ∀ vals w, I w → (∀ i, i < l.length → R i ((ds i).map vals) (vals i) w) → Q .normal (putsA vals l 0 a) w) :
    ∀ (fuel : Nat) (listed : Array Bool) (vals : Nat → Value) (w : World), listed.size = l.length → ((List.range l.length).filter (fun j => !listed.getD j true)).length ≤ fuel → I w →
      (∀ j o, l[j]? = some o → listed.getD j true = true → ∀ k ∈ depsOf o, listed.getD k true = true) → (∀ j, j < l.length → listed.getD j true = true → R j ((ds j).map vals) (vals j) w) →
      wpAny P .any l.toArray Q fuel listed (putsA vals l 0 a) w := by
  have done : ∀ (listed : Array Bool) (vals : Nat → Value) (w : World), listed.size = l.length → I w → (∀ j, j < l.length → listed.getD j true = true → R j ((ds j).map vals) (vals j) w) → Region.ready .any l.toArray listed = [] → Q .normal (putsA vals l 0 a) w := by
    intro listed vals w hsz hI hR hr
    have all : ∀ n j, j < n → j < l.length → listed.getD j true = true := by
      intro n
      induction n with
      | zero => intro j hj; omega
      | succ n ih =>
        intro j hj hjl
        cases hb : listed.getD j true with
        | true => rfl
        | false =>
          exfalso
          have hlj : l[j]? = some l[j] := List.getElem?_eq_getElem hjl
          have : j ∈ Region.ready .any l.toArray listed := by
            refine mem_ready.2 ⟨hb, l[j], by simp, fun e he hbd => ?_⟩
            have hd : e.on ∈ depsOf l[j] := List.mem_map.2 ⟨e, List.mem_filter.2 ⟨by simpa using he, hbd⟩, rfl⟩
            have hlt := earlier_spec l 0 j l[j] hE hlj e.on hd
            have h1 := ih e.on (by omega) (by omega)
            have h2 : e.on < listed.size := by omega
            simpa [Array.getD, h2] using h1
          rw [hr] at this
          cases this
    exact hend vals w hI (fun i hi => hR i hi (all (i + 1) i (by omega) hi))
  intro fuel
  induction fuel with
  | zero =>
    intro listed vals w hsz hf hI hcl hR
    have hr : Region.ready .any l.toArray listed = [] := by
      cases hr : Region.ready .any l.toArray listed with
      | nil => rfl
      | cons i rs =>
        have hi : i ∈ Region.ready .any l.toArray listed := by rw [hr]; simp
        obtain ⟨h1, o, ho, _⟩ := mem_ready.1 hi
        have hil : i < l.length := by simpa using (Array.getElem?_eq_some_iff.1 ho).1
        have : i ∈ (List.range l.length).filter (fun j => !listed.getD j true) := List.mem_filter.2 ⟨List.mem_range.2 hil, by rw [h1]; rfl⟩
        rw [List.eq_nil_of_length_eq_zero (Nat.le_zero.1 hf)] at this
        cases this
    exact ⟨hr, done listed vals w hsz hI hR hr⟩
  | succ fuel ih =>
    intro listed vals w hsz hf hI hcl hR
    refine ⟨done listed vals w hsz hI hR, fun i hi => ?_⟩
    obtain ⟨h1, o, ho, hall⟩ := mem_ready.1 hi
    have hol : l[i]? = some o := by simpa using ho
    have hil : i < l.length := (List.getElem?_eq_some_iff.1 hol).1
    refine wpOp_step ho (fun K' hK' => ?_)
    have hst := StepsR.get l 0 i o hs hol
    rw [Nat.zero_add] at hst
    have hdl : ∀ j ∈ depsOf o, j < l.length ∧ listed.getD j true = true := fun j hj => by
      obtain ⟨e, he, rfl⟩ := List.mem_map.1 hj
      obtain ⟨he1, he2⟩ := List.mem_filter.1 he
      have h2 := hall e (by simpa using he1) he2
      have hlt : e.on < listed.size := by
        rcases Nat.lt_or_ge e.on listed.size with h | h
        · exact h
        · simp [Array.getElem?_eq_none h] at h2
      exact ⟨by omega, by simpa [Array.getD, hlt] using h2⟩
    refine hst (putsA vals l 0 a) vals (yielded l.toArray (putsA vals l 0 a).tmps) w hI (frOk_put fr hF hfa) (fun j hj => ?_) K' (hide fun v w' ⟨q1, q2, q3⟩ => hK' _ _ ?_)
    · have hlj := List.getElem?_eq_getElem (hdl j hj).1
      have hDj : D[j]? = some (l[j]'(hdl j hj).1).dst := by rw [← hD, List.getElem?_map, hlj]; rfl
      refine ⟨?_, hR j (hdl j hj).1 (hdl j hj).2, ?_⟩
      · unfold AtD
        rw [hDj]
        cases hd : (l[j]'(hdl j hj).1).dst with
        | none => trivial
        | some t =>
          have := putsA_at vals l 0 j _ t a hA hN hlj hd
          rwa [Nat.zero_add] at this
      · unfold YesD
        rw [hDj]
        cases hd : (l[j]'(hdl j hj).1).dst with
        | none => trivial
        | some t =>
          intro x hx
          have := putsA_at vals l 0 j _ t a hA hN hlj hd
          rw [Nat.zero_add, hx] at this
          unfold yielded
          have e : (l.toArray[j]?).bind (·.dst) = some t := by
            rw [List.getElem?_toArray, hlj, Option.bind_some, hd]
          rw [e, Option.bind_some, this]
    · rw [← putsA_upd vals v l 0 i o a hA hol, Nat.zero_add]
      have hne : ∀ j o', l[j]? = some o' → listed.getD j true = true → ∀ k ∈ depsOf o', k ≠ i := fun j o' hj hl k hk e => by
        have := hcl j o' hj hl k hk
        rw [e, h1] at this
        cases this
      have hon : i ∉ depsOf o := fun hi' => by have := (hdl i hi').2; rw [h1] at this; cases this
      have hmap : ∀ us : List Nat, (∀ k ∈ us, k ≠ i) → us.map (updV vals i v) = us.map vals := fun us hus => List.map_congr_left fun k hk => by simp only [updV, if_neg (hus k hk)]
      refine ih (listed.setIfInBounds i true) (updV vals i v) w' (by simpa using hsz) ?_ q3 (fun j o' hj hl k hk => ?_) (fun j hj hl => ?_)
      · have hnow : (!(listed.setIfInBounds i true).getD i true) = false := by
          have : i < listed.size := by omega
          simp [this]
        have hlt := (filt_lt (fun j => !listed.getD j true) (fun j => !(listed.setIfInBounds i true).getD j true) (fun j hj => by
          by_cases hji : i = j
          · subst hji
            have : i < listed.size := by omega
            simp [this] at hj
          · rw [getD_set_ne true hji] at hj; exact hj) (List.range l.length)).2 ⟨i, List.mem_range.2 hil, by rw [h1]; rfl, hnow⟩
        omega
      · by_cases hki : i = k
        · subst hki
          have : i < listed.size := by omega
          simp [this]
        · rw [getD_set_ne true hki]
          by_cases hji : i = j
          · subst hji
            rw [hol] at hj
            injection hj with hj
            subst hj
            exact (hdl k hk).2
          · rw [getD_set_ne true hji] at hl
            exact hcl j o' hj hl k hk
      · by_cases hji : j = i
        · subst hji
          rw [hmap (ds j) (fun k hk e => hon (e ▸ linksOk_spec ds l 0 j o hL hol k (by rwa [Nat.zero_add]))), show updV vals j v j = v by simp [updV]]
          exact q1
        · rw [getD_set_ne true (Ne.symm hji)] at hl
          have hlj := List.getElem?_eq_getElem hj
          rw [hmap (ds j) (fun k hk => hne j _ hlj hl k (linksOk_spec ds l 0 j _ hL hlj k (by rwa [Nat.zero_add]))), show updV vals i v j = vals j by simp only [updV, if_neg hji]]
          exact hRG _ i _ _ _ _ (Ne.symm hji) (hR j hj hl) q2
theorem wp_region_rely {id : Nat} {l : List Oper} {a : Act} {w : World} (D : List (Option Nat)) (fr : List (Nat × Value)) (G : Nat → World → World → Prop) (I : World → Prop) (ds : Nat → List Nat) (R : Nat → List Value → Value → World → Prop) (hm : P.follows .mixedOrders = true)
    (hA : (dstsApart l && earlier l 0 && dstsIn l a.tmps.size && linksOk ds l 0) = true) (hD : l.map (·.dst) = D) (hF : fr.all (fun p => !isDst l p.1) = true) (hfa : FrOk a fr)
    (hRG : ∀ i k us v w w', k ≠ i → R i us v w → G k w w' → R i us v w') (hI : I w.drew) (hs : StepsR P D fr Q G I ds R l 0) (hend : ∀ vals w', I w' → (∀ i, i < l.length → R i ((ds i).map vals) (vals i) w') → Q .normal (putsA vals l 0 a) w') : (Code.region id l.toArray true).wp P Q a w := by
  simp only [Bool.and_eq_true] at hA
  obtain ⟨vals, hv⟩ := putsA_start a l 0
  refine wp_region_any hm ?_
  have := rely_any hA.1.1.1 hA.1.1.2 hA.1.2 hA.2 hD hF hfa hRG hs hend l.toArray.size (Array.replicate l.toArray.size false) vals w.drew (by simp) (Nat.le_trans (List.length_filter_le _ _) (by simp)) hI
    (fun j o hj hl => by have := (List.getElem?_eq_some_iff.1 hj).1; simp [this] at hl) (fun j hj hl => by simp [hj] at hl)
  rw [hv] at this
  exact this
end
end Go.Proofs.Ytncdombfhcfobaa
/- A run of slots one behind the other, put at once. -/
namespace Go.Proofs.Ytncdombfhcfobaa
open Go.RowKit
theorem putsL_block (vals : Nat → Value) : ∀ (l : List Oper) (k s : Nat) (A M B : List Value), l.map (·.dst) = (List.range' s l.length).map some → A.length = s → M.length = l.length → putsL vals l k (A ++ (M ++ B)) = A ++ ((List.range' k l.length).map vals ++ B)
  | [], k, s, A, M, B, _, _, hM => by
    have : M = [] := List.eq_nil_of_length_eq_zero hM
    subst this
    rfl
  | o :: l, k, s, A, M, B, hd, hA, hM => by
    match M, hM with
    | m :: M, hM =>
      simp only [List.map_cons, List.length_cons, List.range'_succ, List.cons.injEq] at hd
      show putsL vals l (k + 1) (match o.dst with | some t => (A ++ (m :: M ++ B)).set t (vals k) | none => _) = _
      rw [hd.1]
      dsimp only
      have e : (A ++ (m :: M ++ B)).set s (vals k) = (A ++ [vals k]) ++ (M ++ B) := by
        rw [List.set_append_right _ _ (by omega), hA, Nat.sub_self]
        simp
      rw [e, putsL_block vals l (k + 1) (s + 1) (A ++ [vals k]) M B hd.2 (by simp [hA]) (by simpa using hM)]
      simp [List.range'_succ]
theorem putsL_app (vals : Nat → Value) : ∀ (l1 l2 : List Oper) (k : Nat) (L : List Value), putsL vals (l1 ++ l2) k L = putsL vals l2 (k + l1.length) (putsL vals l1 k L)
  | [], l2, k, L => rfl
  | o :: l1, l2, k, L => by
    show putsL vals (l1 ++ l2) (k + 1) _ = putsL vals l2 (k + (l1.length + 1)) (putsL vals l1 (k + 1) _)
    rw [putsL_app vals l1 l2 (k + 1), show k + (l1.length + 1) = k + 1 + l1.length by omega]
theorem putsL_split (vals : Nat → Value) (n s : Nat) {l : List Oper} {L : List Value} (hd : ((l.take n).map (·.dst) == (List.range' s n).map some) = true) (hn : decide (n ≤ l.length) = true) (hs : decide (s + n ≤ L.length) = true) :
    putsL vals l 0 L = putsL vals (l.drop n) n (L.take s ++ ((List.range' 0 n).map vals ++ L.drop (s + n))) := by
  have hn' := of_decide_eq_true hn
  have hs' := of_decide_eq_true hs
  have hl : (l.take n).length = n := by simp; omega
  have e1 : L = L.take s ++ ((L.drop s).take n ++ L.drop (s + n)) := by
    rw [← List.drop_drop, List.take_append_drop, List.take_append_drop]
  have e2 := putsL_app vals (l.take n) (l.drop n) 0 L
  rw [List.take_append_drop, hl, Nat.zero_add] at e2
  rw [e2]
  congr 1
  conv => lhs; rw [e1]
  rw [putsL_block vals (l.take n) 0 s (L.take s) ((L.drop s).take n) (L.drop (s + n)) (by rw [hl]; exact eq_of_beq hd) (by simp; omega) (by rw [hl]; simp; omega), hl]
end Go.Proofs.Ytncdombfhcfobaa
