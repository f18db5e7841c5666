/-
  No cell of these rows narrows 'for every input' (looked for: loops, veiled, ifaces, maps, wideKeys, modest, calm, conditions, laid).
  DERIVED. THE GIVEN ROWS OF THIS SEAT. 7 by the template 'for every input the law returns true; each argument reads behind the call as it read before'; 0 by the template 'total and deterministic' (their statements: YtenhghkiapkejaaTotals.lean).
  GIVEN WITH THE SEED: the statements are not yours to turn. If you find one false, say at which input.
  Laid BY PROGRAM, IN A SANDBOX (cutbox-rows.mjs): the forced cells as the released guide's own fill.sh prints them over the translation 0c27aeb696b09c42… (all of the seat's roots in one cut). By AI agents, Wed Nov 11 2026. No macro, syntax, notation, axiom, sorry.
-/
import Derived.Test.YtenhghkiapkejaaChecked
import GoSem.Claim
import GoSem.ClaimJoined
import GoSem.ClaimMapViews
import Derived.JoinedTies
import Derived.KernelRfl
namespace Go.Proofs.Ytenhghkiapkejaa
/- THE CELL 'sum', in the pinned program and in every row, IS THE sha256 OF THE DUMP (.gsa) THAT YtenhghkiapkejaaProg.lean LOADS. Nothing in Lean hashes anything: it is a label: what it is worth is what the hold of that sum in a sandbox is worth. -/
noncomputable def Try.pinned : Pinned := { name := "ytenhghkiapkejaa", sum := "0c27aeb696b09c425dfe8134ed3d5be4439713863721e4711a1263c8f792c704", checked := Try.checked }
namespace Rows
def none {H : Type} : Left H := { results := [], args := [] }

/-- 'slatewalllaw06.StampMatchesReference': WHATEVER THE INPUT: true; the input reads as it did. -/
def stampMatchesReferenceSpec : ChangeSpec := { name := "stampMatchesReference", fn := fun _ => fun
  | [d1, d2, d3, d4, d5] => { results := [.lit (.bool true)], args := [d1, d2, d3, d4, d5] }
  | _ => none }
def stampMatchesReferenceRow : OpenClaim := { program := "ytenhghkiapkejaa", sum := "0c27aeb696b09c425dfe8134ed3d5be4439713863721e4711a1263c8f792c704", func := "slatewall/slatewalllaw06.StampMatchesReference", spec := "stampMatchesReference", unfollowed := true, recurses := true, apart := false }
def StampMatchesReferenceSaid : Prop := stampMatchesReferenceRow.holds Try.pinned (OpenSpec.ofChange stampMatchesReferenceSpec)

/-- ITS FALSE NEIGHBOUR: 'it returns false'. Refute it at one input. -/
def stampMatchesReferenceWrong : ChangeSpec := { name := "stampMatchesReference", fn := fun _ => fun
  | [d1, d2, d3, d4, d5] => { results := [.lit (.bool false)], args := [d1, d2, d3, d4, d5] }
  | _ => none }
def StampMatchesReferenceWrongFalsely : Prop := stampMatchesReferenceRow.holds Try.pinned (OpenSpec.ofChange stampMatchesReferenceWrong)

/-- 'slatewalllaw06.StampClocksMatchReference': WHATEVER THE INPUT: true; the input reads as it did. -/
def stampClocksMatchReferenceSpec : ChangeSpec := { name := "stampClocksMatchReference", fn := fun _ => fun
  | [d1, d2, d3, d4, d5, d6, d7, d8, d9, d10] => { results := [.lit (.bool true)], args := [d1, d2, d3, d4, d5, d6, d7, d8, d9, d10] }
  | _ => none }
def stampClocksMatchReferenceRow : OpenClaim := { program := "ytenhghkiapkejaa", sum := "0c27aeb696b09c425dfe8134ed3d5be4439713863721e4711a1263c8f792c704", func := "slatewall/slatewalllaw06.StampClocksMatchReference", spec := "stampClocksMatchReference", unfollowed := true, recurses := true, apart := false }
def StampClocksMatchReferenceSaid : Prop := stampClocksMatchReferenceRow.holds Try.pinned (OpenSpec.ofChange stampClocksMatchReferenceSpec)

/-- ITS FALSE NEIGHBOUR: 'it returns false'. Refute it at one input. -/
def stampClocksMatchReferenceWrong : ChangeSpec := { name := "stampClocksMatchReference", fn := fun _ => fun
  | [d1, d2, d3, d4, d5, d6, d7, d8, d9, d10] => { results := [.lit (.bool false)], args := [d1, d2, d3, d4, d5, d6, d7, d8, d9, d10] }
  | _ => none }
def StampClocksMatchReferenceWrongFalsely : Prop := stampClocksMatchReferenceRow.holds Try.pinned (OpenSpec.ofChange stampClocksMatchReferenceWrong)

/-- 'slatewalllaw06.StampOrder': WHATEVER THE INPUT: true; the input reads as it did. -/
def stampOrderSpec : ChangeSpec := { name := "stampOrder", fn := fun _ => fun
  | [d1, d2, d3, d4, d5] => { results := [.lit (.bool true)], args := [d1, d2, d3, d4, d5] }
  | _ => none }
def stampOrderRow : OpenClaim := { program := "ytenhghkiapkejaa", sum := "0c27aeb696b09c425dfe8134ed3d5be4439713863721e4711a1263c8f792c704", func := "slatewall/slatewalllaw06.StampOrder", spec := "stampOrder", unfollowed := true, recurses := true, apart := false }
def StampOrderSaid : Prop := stampOrderRow.holds Try.pinned (OpenSpec.ofChange stampOrderSpec)

/-- ITS FALSE NEIGHBOUR: 'it returns false'. Refute it at one input. -/
def stampOrderWrong : ChangeSpec := { name := "stampOrder", fn := fun _ => fun
  | [d1, d2, d3, d4, d5] => { results := [.lit (.bool false)], args := [d1, d2, d3, d4, d5] }
  | _ => none }
def StampOrderWrongFalsely : Prop := stampOrderRow.holds Try.pinned (OpenSpec.ofChange stampOrderWrong)

/-- 'slatewalllaw06.StampTight': WHATEVER THE INPUT: true; the input reads as it did. -/
def stampTightSpec : ChangeSpec := { name := "stampTight", fn := fun _ => fun
  | [d1, d2, d3] => { results := [.lit (.bool true)], args := [d1, d2, d3] }
  | _ => none }
def stampTightRow : OpenClaim := { program := "ytenhghkiapkejaa", sum := "0c27aeb696b09c425dfe8134ed3d5be4439713863721e4711a1263c8f792c704", func := "slatewall/slatewalllaw06.StampTight", spec := "stampTight", unfollowed := true, recurses := true, apart := false }
def StampTightSaid : Prop := stampTightRow.holds Try.pinned (OpenSpec.ofChange stampTightSpec)

/-- ITS FALSE NEIGHBOUR: 'it returns false'. Refute it at one input. -/
def stampTightWrong : ChangeSpec := { name := "stampTight", fn := fun _ => fun
  | [d1, d2, d3] => { results := [.lit (.bool false)], args := [d1, d2, d3] }
  | _ => none }
def StampTightWrongFalsely : Prop := stampTightRow.holds Try.pinned (OpenSpec.ofChange stampTightWrong)

/-- 'slatewalllaw06.StampContradicts': WHATEVER THE INPUT: true; the input reads as it did. -/
def stampContradictsSpec : ChangeSpec := { name := "stampContradicts", fn := fun _ => fun
  | [d1, d2] => { results := [.lit (.bool true)], args := [d1, d2] }
  | _ => none }
def stampContradictsRow : OpenClaim := { program := "ytenhghkiapkejaa", sum := "0c27aeb696b09c425dfe8134ed3d5be4439713863721e4711a1263c8f792c704", func := "slatewall/slatewalllaw06.StampContradicts", spec := "stampContradicts", unfollowed := true, recurses := true, apart := false }
def StampContradictsSaid : Prop := stampContradictsRow.holds Try.pinned (OpenSpec.ofChange stampContradictsSpec)

/-- ITS FALSE NEIGHBOUR: 'it returns false'. Refute it at one input. -/
def stampContradictsWrong : ChangeSpec := { name := "stampContradicts", fn := fun _ => fun
  | [d1, d2] => { results := [.lit (.bool false)], args := [d1, d2] }
  | _ => none }
def StampContradictsWrongFalsely : Prop := stampContradictsRow.holds Try.pinned (OpenSpec.ofChange stampContradictsWrong)

/-- 'slatewalllaw06.StampCertain': WHATEVER THE INPUT: true; the input reads as it did. -/
def stampCertainSpec : ChangeSpec := { name := "stampCertain", fn := fun _ => fun
  | [d1, d2, d3, d4] => { results := [.lit (.bool true)], args := [d1, d2, d3, d4] }
  | _ => none }
def stampCertainRow : OpenClaim := { program := "ytenhghkiapkejaa", sum := "0c27aeb696b09c425dfe8134ed3d5be4439713863721e4711a1263c8f792c704", func := "slatewall/slatewalllaw06.StampCertain", spec := "stampCertain", unfollowed := true, recurses := true, apart := false }
def StampCertainSaid : Prop := stampCertainRow.holds Try.pinned (OpenSpec.ofChange stampCertainSpec)

/-- ITS FALSE NEIGHBOUR: 'it returns false'. Refute it at one input. -/
def stampCertainWrong : ChangeSpec := { name := "stampCertain", fn := fun _ => fun
  | [d1, d2, d3, d4] => { results := [.lit (.bool false)], args := [d1, d2, d3, d4] }
  | _ => none }
def StampCertainWrongFalsely : Prop := stampCertainRow.holds Try.pinned (OpenSpec.ofChange stampCertainWrong)

/-- 'slatewalllaw06.StampWhen': WHATEVER THE INPUT: true; the input reads as it did. -/
def stampWhenSpec : ChangeSpec := { name := "stampWhen", fn := fun _ => fun
  | [d1, d2, d3, d4] => { results := [.lit (.bool true)], args := [d1, d2, d3, d4] }
  | _ => none }
def stampWhenRow : OpenClaim := { program := "ytenhghkiapkejaa", sum := "0c27aeb696b09c425dfe8134ed3d5be4439713863721e4711a1263c8f792c704", func := "slatewall/slatewalllaw06.StampWhen", spec := "stampWhen", unfollowed := true, recurses := true, apart := false }
def StampWhenSaid : Prop := stampWhenRow.holds Try.pinned (OpenSpec.ofChange stampWhenSpec)

/-- ITS FALSE NEIGHBOUR: 'it returns false'. Refute it at one input. -/
def stampWhenWrong : ChangeSpec := { name := "stampWhen", fn := fun _ => fun
  | [d1, d2, d3, d4] => { results := [.lit (.bool false)], args := [d1, d2, d3, d4] }
  | _ => none }
def StampWhenWrongFalsely : Prop := stampWhenRow.holds Try.pinned (OpenSpec.ofChange stampWhenWrong)

/- THE SECOND FORM. 'bulk': how many values and letters a reading holds, each counted each time it is reached (what is shared counts as often as it is met; a slice's spare places count too). A statement '..UptoSaid' is the law's where the arguments, and the package variables that the reading takes, are together of bulk at most 1048576: NARROWER than '..Said'. Prove '..Said' where nothing that the law and all that it calls make is longer than what came in: it says more and counts as full. Else prove '..UptoSaid'. A law counts once. -/
mutual
def uptoBulk {H : Type} : DataW H → Nat
  | .lit (.string bytes) => bytes.length + 1
  | .lit _ => 1
  | .nil => 1
  | .ptr d => uptoBulk d + 1
  | .slice elems spare => uptoBulkAll elems + uptoBulkAll spare + 1
  | .agg parts => uptoBulkAll parts + 1
  | .iface _ d => uptoBulk d + 1
  | .map entries => uptoBulkEntries entries + 1
  | .held _ => 1
def uptoBulkAll {H : Type} : List (DataW H) → Nat
  | [] => 0
  | d :: r => uptoBulk d + uptoBulkAll r
def uptoBulkEntries {H : Type} : List (Lit × DataW H) → Nat
  | [] => 0
  | x :: r => uptoBulkEntry x + uptoBulkEntries r
def uptoBulkEntry {H : Type} : Lit × DataW H → Nat
  | (.string bytes, d) => bytes.length + uptoBulk d + 1
  | (_, d) => uptoBulk d + 1
 end
def uptoSmall : (H : Type) → List (DataW H) → Bool := fun _ ds => decide (uptoBulkAll ds ≤ 1048576)
def OpenSpec.upto (s : _root_.Go.ChangeSpec) : _root_.Go.OpenSpec := { _root_.Go.OpenSpec.ofChange s with cond := some uptoSmall }

/-- 'slatewalllaw06.StampMatchesReference', WHERE WHAT IT READS IS OF BULK AT MOST 1048576: true; the input reads as it did. -/
def stampMatchesReferenceUptoRow : OpenClaim := { program := "ytenhghkiapkejaa", sum := "0c27aeb696b09c425dfe8134ed3d5be4439713863721e4711a1263c8f792c704", func := "slatewall/slatewalllaw06.StampMatchesReference", spec := "stampMatchesReference", unfollowed := true, recurses := true, apart := false, narrowed := true }
def StampMatchesReferenceUptoSaid : Prop := stampMatchesReferenceUptoRow.holds Try.pinned (OpenSpec.upto stampMatchesReferenceSpec)

/-- 'slatewalllaw06.StampClocksMatchReference', WHERE WHAT IT READS IS OF BULK AT MOST 1048576: true; the input reads as it did. -/
def stampClocksMatchReferenceUptoRow : OpenClaim := { program := "ytenhghkiapkejaa", sum := "0c27aeb696b09c425dfe8134ed3d5be4439713863721e4711a1263c8f792c704", func := "slatewall/slatewalllaw06.StampClocksMatchReference", spec := "stampClocksMatchReference", unfollowed := true, recurses := true, apart := false, narrowed := true }
def StampClocksMatchReferenceUptoSaid : Prop := stampClocksMatchReferenceUptoRow.holds Try.pinned (OpenSpec.upto stampClocksMatchReferenceSpec)

/-- 'slatewalllaw06.StampOrder', WHERE WHAT IT READS IS OF BULK AT MOST 1048576: true; the input reads as it did. -/
def stampOrderUptoRow : OpenClaim := { program := "ytenhghkiapkejaa", sum := "0c27aeb696b09c425dfe8134ed3d5be4439713863721e4711a1263c8f792c704", func := "slatewall/slatewalllaw06.StampOrder", spec := "stampOrder", unfollowed := true, recurses := true, apart := false, narrowed := true }
def StampOrderUptoSaid : Prop := stampOrderUptoRow.holds Try.pinned (OpenSpec.upto stampOrderSpec)

/-- 'slatewalllaw06.StampTight', WHERE WHAT IT READS IS OF BULK AT MOST 1048576: true; the input reads as it did. -/
def stampTightUptoRow : OpenClaim := { program := "ytenhghkiapkejaa", sum := "0c27aeb696b09c425dfe8134ed3d5be4439713863721e4711a1263c8f792c704", func := "slatewall/slatewalllaw06.StampTight", spec := "stampTight", unfollowed := true, recurses := true, apart := false, narrowed := true }
def StampTightUptoSaid : Prop := stampTightUptoRow.holds Try.pinned (OpenSpec.upto stampTightSpec)

/-- 'slatewalllaw06.StampContradicts', WHERE WHAT IT READS IS OF BULK AT MOST 1048576: true; the input reads as it did. -/
def stampContradictsUptoRow : OpenClaim := { program := "ytenhghkiapkejaa", sum := "0c27aeb696b09c425dfe8134ed3d5be4439713863721e4711a1263c8f792c704", func := "slatewall/slatewalllaw06.StampContradicts", spec := "stampContradicts", unfollowed := true, recurses := true, apart := false, narrowed := true }
def StampContradictsUptoSaid : Prop := stampContradictsUptoRow.holds Try.pinned (OpenSpec.upto stampContradictsSpec)

/-- 'slatewalllaw06.StampCertain', WHERE WHAT IT READS IS OF BULK AT MOST 1048576: true; the input reads as it did. -/
def stampCertainUptoRow : OpenClaim := { program := "ytenhghkiapkejaa", sum := "0c27aeb696b09c425dfe8134ed3d5be4439713863721e4711a1263c8f792c704", func := "slatewall/slatewalllaw06.StampCertain", spec := "stampCertain", unfollowed := true, recurses := true, apart := false, narrowed := true }
def StampCertainUptoSaid : Prop := stampCertainUptoRow.holds Try.pinned (OpenSpec.upto stampCertainSpec)

/-- 'slatewalllaw06.StampWhen', WHERE WHAT IT READS IS OF BULK AT MOST 1048576: true; the input reads as it did. -/
def stampWhenUptoRow : OpenClaim := { program := "ytenhghkiapkejaa", sum := "0c27aeb696b09c425dfe8134ed3d5be4439713863721e4711a1263c8f792c704", func := "slatewall/slatewalllaw06.StampWhen", spec := "stampWhen", unfollowed := true, recurses := true, apart := false, narrowed := true }
def StampWhenUptoSaid : Prop := stampWhenUptoRow.holds Try.pinned (OpenSpec.upto stampWhenSpec)

end Rows
end Go.Proofs.Ytenhghkiapkejaa
