/- A region that draws its order, whose calls make memory but leave what stood as it was: one walk in the order of the text. -/
import Derived.Test.YtncdombfhcfobaaSl2
import Derived.BigQuiet
namespace Go.Proofs.Ytncdombfhcfobaa
open Go.RowKit
/-- a world in which all that stood in w0 is as it was -/
structure BW (w0 : World) where
  val : World
  ok : Below w0.heap.size w0 val
instance (w0 : World) : Inhabited (BW w0) := ⟨⟨w0, Below.refl _ _⟩⟩
section
variable {P : Program}
theorem wp_region_bw (w0 : World) {id : Nat} {Q : Exit → Act → World → Prop} {a : Act} {w : World} {l : List Oper} (hw : Below w0.heap.size w0 w) (hm : P.follows .mixedOrders = true) (hB : Region.lexB .any l.toArray = true)
    (h : wpQuiet P l.toArray (fun w' => ∃ x : BW w0, w' = x.val) (fun a' => ∀ w', Below w0.heap.size w0 w' → Q .normal a' w') l a) : (Code.region id l.toArray true).wp P Q a w :=
  wp_region_quiet (C := fun w' => ∃ x : BW w0, w' = x.val) hm hB ⟨⟨w.drew, bdrew hw⟩, rfl⟩ (by
    have e : (fun a' => ∀ w', (∃ x : BW w0, w' = x.val) → Q .normal a' w') = (fun a' => ∀ w', Below w0.heap.size w0 w' → Q .normal a' w') := by
      funext a'
      exact propext ⟨fun h w' hb => h w' ⟨⟨w', hb⟩, rfl⟩, fun h w' ⟨x, hx⟩ => h w' (hx ▸ x.ok)⟩
    rw [e]
    simpa using h)
theorem bw_call {w0 : World} {f : FuncId} {args : Array Value} {x : BW w0} {v : Value} (h : Calls P f args x.val fun e w' => e = .returned v ∧ Below x.val.heap.size x.val w') :
    Calls P f args x.val fun e w'' => e = .returned v ∧ ∃ y : BW w0, w'' = y.val :=
  h.mono fun _ w' ⟨he, hb⟩ => ⟨he, ⟨w', bthen x.ok hb⟩, rfl⟩
theorem bw_same {w0 : World} {f : FuncId} {args : Array Value} {x : BW w0} {v : Value} (h : Calls P f args x.val fun e w' => e = .returned v ∧ x.val = w') :
    Calls P f args x.val fun e w'' => e = .returned v ∧ ∃ y : BW w0, w'' = y.val :=
  h.mono fun _ _ ⟨he, hb⟩ => ⟨he, x, hb.symm⟩
theorem SlR.bw3 {w0 : World} {b off n k : Nat} {l : List I3} (h : SlR w0 w0.heap.size 3 (some ⟨b, off, none⟩) n (l.flatMap c3)) (hk : k < l.length) :
    (∀ x : BW w0, x.val.cell? ⟨b, off + k * 3, none⟩ = some (.int .i64 l[k].1)) ∧ (∀ x : BW w0, x.val.cell? ⟨b, off + k * 3 + 1, none⟩ = some (.int .i64 l[k].2.1)) ∧ (∀ x : BW w0, x.val.cell? ⟨b, off + k * 3 + 2, none⟩ = some (.int .i64 l[k].2.2)) := by
  have hn : n = l.length := by
    have := h.1
    rw [flat_len c3 3 (fun _ => rfl)] at this
    omega
  subst hn
  have key := fun x : BW w0 => h.at3 x.ok hk
  refine ⟨fun x => ?_, fun x => ?_, fun x => ?_⟩ <;> (obtain ⟨b', off', e, _, h0, h1, h2⟩ := key x; cases e; assumption)
end
end Go.Proofs.Ytncdombfhcfobaa
