/- In a region that draws its order, a call that leaves the world as it was may be taken first. -/
import Derived.Test.YtncdombfhcfobaaRg
import Derived.OrdersHeld
namespace Go.Proofs.Ytncdombfhcfobaa
open Go.RowKit
section
variable {P : Program} {ops : Array Oper} {Q : Exit → Act → World → Prop} {md : Region.Mode} {S : World → Prop}
/-- in every world of S the step x comes to v and leaves the world as it is: by itself, or by a call -/
def Gives (P : Program) (S : World → Prop) (v : Value) (x : Sem Next) : Prop :=
  ∀ w, S w → x.run P w = .ok (.value v) w ∨ ∃ f args, x.run P w = .ok (.enter f args) w ∧ Calls P f args w fun e w' => e = .returned v ∧ w = w'
/-- operation o is wanted in this state, and its step is x -/
def Asks (ops : Array Oper) (o : Oper) (x : Sem Next) (a : Act) : Prop := Region.wanted o (yielded ops a.tmps) = true ∧ execOp a.eval o = x
theorem Asks.put {o : Oper} {x : Sem Next} {a : Act} (h : Asks ops o x a) (hs : ∀ cs b, o.op ≠ .select cs b) {d : Option Tmp} (hd : ∀ t, d = some t → t ∉ o.looksAt ops) (u : Value) : Asks ops o x (a.put d u) :=
  ⟨(wanted_put o a d u hd).trans h.1, (execOp_put o hs a d u hd).trans h.2⟩
theorem Asks.defers {o : Oper} {x : Sem Next} {a : Act} (h : Asks ops o x a) (d : List Deferred) : Asks ops o x { a with defers := d } := ⟨h.1, h.2⟩
theorem Asks.wpOp {i : Nat} {o : Oper} {v : Value} {x : Sem Next} {a : Act} {w : World} (hi : ops[i]? = some o) (h : Asks ops o x a) (hg : Gives P S v x) (hS : S w) {K : Act → World → Prop} (hK : K (a.put o.dst v) w) : wpOp P ops Q i K a w := by
  unfold Go.wpOp
  simp only [hi, h.1, if_true]
  refine .inl ?_
  unfold Oper.wp
  rw [h.2]
  rcases hg w hS with e | ⟨f, args, e, hc⟩ <;> rw [e]
  · exact hK
  · exact Calls.mono hc fun e w' ⟨he, hw⟩ => by subst he; subst hw; exact hK
theorem wpOp_late {j : Nat} {oi oj : Oper} {v : Value} {x : Sem Next} (hj : ops[j]? = some oj) (hap : oi.apart ops oj = true) (hsi : ∀ cs b, oi.op ≠ .select cs b) (hsj : ∀ cs b, oj.op ≠ .select cs b)
    (hQ : ∀ c a w, Q (.panic c) (a.put oi.dst v) w → Q (.panic c) a w) {K : Act → World → Prop} {a : Act} {w : World} (hy : Asks ops oi x a) (h : wpOp P ops Q j K (a.put oi.dst v) w) :
    wpOp P ops Q j (fun a' w' => Asks ops oi x a' ∧ K (a'.put oi.dst v) w') a w := by
  obtain ⟨h1, h2, h3⟩ := Oper.apart_spec hap
  have on : ∀ (b : Act) (u : Value) (w' : World), Asks ops oi x b → K ((b.put oi.dst v).put oj.dst u) w' → Asks ops oi x (b.put oj.dst u) ∧ K ((b.put oj.dst u).put oi.dst v) w' := fun b u w' hb hk =>
    ⟨hb.put hsi h3 u, by rw [← Act.put_comm b v u h2]; exact hk⟩
  unfold wpOp at h ⊢
  simp only [hj] at h ⊢
  rw [wanted_put oj a oi.dst v h1] at h
  by_cases hw : Region.wanted oj (yielded ops a.tmps) = true
  · simp only [hw, if_true] at h ⊢
    rcases h with h | ⟨hk, hl⟩
    · refine .inl ?_
      unfold Oper.wp at h ⊢
      rw [execOp_put oj hsj a oi.dst v h1] at h
      revert h
      generalize (execOp a.eval oj).run P w = r
      intro h
      rcases r with ⟨n, w'⟩ | ⟨y, w'⟩
      · cases n with
        | value u => exact on a u w' hy h
        | skip => exact on a undef w' hy h
        | defer d =>
          refine on _ undef w' (hy.defers _) ?_
          rw [← Act.put_defers]
          exact h
        | enter f args =>
          refine Calls.mono h fun e w2 he => ?_
          cases e with
          | returned u => exact on a u w2 hy he
          | panicked c => exact hQ _ _ _ he
          | outgrown => exact he
        | row rw' args => exact Rows.mono h fun u w2 he => on a u w2 hy he
        | _ => exact h
      · cases y with
        | panic u => exact hQ _ _ _ h
        | _ => exact h
    · refine .inr ⟨?_, hl⟩
      unfold Oper.asks at hk ⊢
      rw [execOp_put oj hsj a oi.dst v h1] at hk
      exact hk
  · simp only [hw] at h ⊢
    exact on a undef w hy h
theorem wpAnyH_quiet {i : Nat} {oi : Oper} {v : Value} {x : Sem Next} (hi : ops[i]? = some oi) (hsel : Region.noSelect ops = true) (hQ : ∀ c a w, Q (.panic c) (a.put oi.dst v) w → Q (.panic c) a w) (hg : Gives P S v x) :
    ∀ (fuel : Nat) (listed : Array Bool) (a : Act) (w : World),
      (∀ j oj, ops[j]? = some oj → j ≠ i → listed.getD j true = false → (∀ e ∈ oj.after, Region.binds md e = true → e.on ≠ i) → oi.apart ops oj = true) →
      i ∈ Region.ready md ops listed → Asks ops oi x a → S w →
      wpAnyH P md ops Q S fuel (listed.setIfInBounds i true) (a.put oi.dst v) w → wpAnyH P md ops Q S (fuel + 1) listed a w := by
  intro fuel
  induction fuel with
  | zero =>
    intro listed a w _ hr hy hS H
    refine ⟨fun h => (by rw [h] at hr; cases hr), fun j hj => ?_⟩
    rcases Nat.decEq j i with hji | hji
    · have := ready_mono hj hji
      rw [H.1] at this
      cases this
    · subst hji; exact hy.wpOp hi hg hS ⟨hS, H⟩
  | succ fuel ih =>
    intro listed a w hfree hr hy hS H
    refine ⟨fun h => (by rw [h] at hr; cases hr), fun j hj => ?_⟩
    rcases Nat.decEq j i with hji | hji
    · obtain ⟨hun, oj, hoj, hall⟩ := mem_ready.1 hj
      have hnot : ∀ e ∈ oj.after, Region.binds md e = true → e.on ≠ i := fun e he hb heq => by
        have p1 := hall e he hb
        have p0 := (mem_ready.1 hr).1
        rw [heq] at p1
        by_cases hsz : i < listed.size
        · simp [hsz] at p0 p1; rw [p0] at p1; cases p1
        · simp [Array.getElem?_eq_none (Nat.le_of_not_lt hsz)] at p1
      have p2 := wpOp_late hoj (hfree j oj hoj hji hun hnot) (fun cs b => Region.noSelect_spec hsel i oi cs b hi) (fun cs b => Region.noSelect_spec hsel j oj cs b hoj) hQ hy (H.2 j (ready_mono hj hji))
      refine wpOp_mono (fun a' w' ⟨q1, q2, q3⟩ => ⟨q2, ih (listed.setIfInBounds j true) a' w' (fun k ok hk hki hunk hno => hfree k ok hk hki ?_ hno) (ready_mono hr (Ne.symm hji)) q1 q2 ?_⟩) p2
      · by_cases hjk : j = k
        · subst hjk; exact hun
        · rw [getD_set_ne true hjk] at hunk; exact hunk
      · rw [Array.setIfInBounds_comm _ _ hji]
        exact q3
    · subst hji; exact hy.wpOp hi hg hS ⟨hS, H⟩
theorem wpAnyH_call {i : Nat} {oi : Oper} {v : Value} {f : FuncId} {args : Array Value} {fuel : Nat} {listed : Array Bool} {a : Act} {w : World} (hi : ops[i]? = some oi) (hs : Region.noSelect ops = true) (hf : Region.free md ops listed i = true) (hr : (Region.ready md ops listed).contains i = true)
    (hQ : ∀ c a w, Q (.panic c) (a.put oi.dst v) w → Q (.panic c) a w) (hw : Region.wanted oi (yielded ops a.tmps) = true) (he : ∀ w, S w → (execOp a.eval oi).run P w = .ok (.enter f args) w) (hc : ∀ w, S w → Calls P f args w fun e w' => e = .returned v ∧ w = w') (hS : S w)
    (h : wpAnyH P md ops Q S fuel (listed.setIfInBounds i true) (a.put oi.dst v) w) : wpAnyH P md ops Q S (fuel + 1) listed a w :=
  wpAnyH_quiet hi hs hQ (fun w hw' => .inr ⟨f, args, he w hw', hc w hw'⟩) fuel listed a w (Region.free_spec hi hf) (by simpa using hr) ⟨hw, rfl⟩ hS h
end
end Go.Proofs.Ytncdombfhcfobaa
