/-
  No cell of these rows narrows 'for every input' (looked for: loops, veiled, ifaces, maps, wideKeys, modest, calm, conditions, laid).
  DERIVED. THE GIVEN ROWS OF THIS SEAT. 6 by the template 'for every input the law returns true; each argument reads behind the call as it read before'; 0 by the template 'total and deterministic' (their statements: YtncdombfhcfobaaTotals.lean).
  GIVEN WITH THE SEED: the statements are not yours to turn. If you find one false, say at which input.
  Laid BY PROGRAM, IN A SANDBOX (cutbox-rows.mjs): the forced cells as the released guide's own fill.sh prints them over the translation d655771b5a30d61c… (all of the seat's roots in one cut). By AI agents, Wed Nov 11 2026. No macro, syntax, notation, axiom, sorry.
-/
import Derived.Test.YtncdombfhcfobaaChecked
import GoSem.Claim
import GoSem.ClaimJoined
import GoSem.ClaimMapViews
import Derived.JoinedTies
import Derived.KernelRfl
namespace Go.Proofs.Ytncdombfhcfobaa
/- THE CELL 'sum', in the pinned program and in every row, IS THE sha256 OF THE DUMP (.gsa) THAT YtncdombfhcfobaaProg.lean LOADS. Nothing in Lean hashes anything: it is a label: what it is worth is what the hold of that sum in a sandbox is worth. -/
noncomputable def Try.pinned : Pinned := { name := "ytncdombfhcfobaa", sum := "d655771b5a30d61c0bd05af86c95a2af292e81a91d03f6dc4c8d4fc20f3f3fb1", checked := Try.checked }
namespace Rows
def none {H : Type} : Left H := { results := [], args := [] }

/-- 'slatewalllaw14.ModuleMerges': WHATEVER THE INPUT: true; the input reads as it did. -/
def moduleMergesSpec : ChangeSpec := { name := "moduleMerges", fn := fun _ => fun
  | [d1, d2, d3] => { results := [.lit (.bool true)], args := [d1, d2, d3] }
  | _ => none }
def moduleMergesRow : OpenClaim := { program := "ytncdombfhcfobaa", sum := "d655771b5a30d61c0bd05af86c95a2af292e81a91d03f6dc4c8d4fc20f3f3fb1", func := "slatewall/slatewalllaw14.ModuleMerges", spec := "moduleMerges", unfollowed := true, recurses := true, apart := false }
def ModuleMergesSaid : Prop := moduleMergesRow.holds Try.pinned (OpenSpec.ofChange moduleMergesSpec)

/-- ITS FALSE NEIGHBOUR: 'it returns false'. Refute it at one input. -/
def moduleMergesWrong : ChangeSpec := { name := "moduleMerges", fn := fun _ => fun
  | [d1, d2, d3] => { results := [.lit (.bool false)], args := [d1, d2, d3] }
  | _ => none }
def ModuleMergesWrongFalsely : Prop := moduleMergesRow.holds Try.pinned (OpenSpec.ofChange moduleMergesWrong)

/-- 'slatewalllaw14.ModuleBack': WHATEVER THE INPUT: true; the input reads as it did. -/
def moduleBackSpec : ChangeSpec := { name := "moduleBack", fn := fun _ => fun
  | [d1, d2, d3, d4, d5] => { results := [.lit (.bool true)], args := [d1, d2, d3, d4, d5] }
  | _ => none }
def moduleBackRow : OpenClaim := { program := "ytncdombfhcfobaa", sum := "d655771b5a30d61c0bd05af86c95a2af292e81a91d03f6dc4c8d4fc20f3f3fb1", func := "slatewall/slatewalllaw14.ModuleBack", spec := "moduleBack", unfollowed := true, recurses := true, apart := false }
def ModuleBackSaid : Prop := moduleBackRow.holds Try.pinned (OpenSpec.ofChange moduleBackSpec)

/-- ITS FALSE NEIGHBOUR: 'it returns false'. Refute it at one input. -/
def moduleBackWrong : ChangeSpec := { name := "moduleBack", fn := fun _ => fun
  | [d1, d2, d3, d4, d5] => { results := [.lit (.bool false)], args := [d1, d2, d3, d4, d5] }
  | _ => none }
def ModuleBackWrongFalsely : Prop := moduleBackRow.holds Try.pinned (OpenSpec.ofChange moduleBackWrong)

/-- 'slatewalllaw14.ModuleExpands': WHATEVER THE INPUT: true; the input reads as it did. -/
def moduleExpandsSpec : ChangeSpec := { name := "moduleExpands", fn := fun _ => fun
  | [d1, d2, d3, d4, d5] => { results := [.lit (.bool true)], args := [d1, d2, d3, d4, d5] }
  | _ => none }
def moduleExpandsRow : OpenClaim := { program := "ytncdombfhcfobaa", sum := "d655771b5a30d61c0bd05af86c95a2af292e81a91d03f6dc4c8d4fc20f3f3fb1", func := "slatewall/slatewalllaw14.ModuleExpands", spec := "moduleExpands", unfollowed := true, recurses := true, apart := false }
def ModuleExpandsSaid : Prop := moduleExpandsRow.holds Try.pinned (OpenSpec.ofChange moduleExpandsSpec)

/-- ITS FALSE NEIGHBOUR: 'it returns false'. Refute it at one input. -/
def moduleExpandsWrong : ChangeSpec := { name := "moduleExpands", fn := fun _ => fun
  | [d1, d2, d3, d4, d5] => { results := [.lit (.bool false)], args := [d1, d2, d3, d4, d5] }
  | _ => none }
def ModuleExpandsWrongFalsely : Prop := moduleExpandsRow.holds Try.pinned (OpenSpec.ofChange moduleExpandsWrong)

/-- 'slatewalllaw14.ModuleRebases': WHATEVER THE INPUT: true; the input reads as it did. -/
def moduleRebasesSpec : ChangeSpec := { name := "moduleRebases", fn := fun _ => fun
  | [d1, d2, d3, d4, d5] => { results := [.lit (.bool true)], args := [d1, d2, d3, d4, d5] }
  | _ => none }
def moduleRebasesRow : OpenClaim := { program := "ytncdombfhcfobaa", sum := "d655771b5a30d61c0bd05af86c95a2af292e81a91d03f6dc4c8d4fc20f3f3fb1", func := "slatewall/slatewalllaw14.ModuleRebases", spec := "moduleRebases", unfollowed := true, recurses := true, apart := false }
def ModuleRebasesSaid : Prop := moduleRebasesRow.holds Try.pinned (OpenSpec.ofChange moduleRebasesSpec)

/-- ITS FALSE NEIGHBOUR: 'it returns false'. Refute it at one input. -/
def moduleRebasesWrong : ChangeSpec := { name := "moduleRebases", fn := fun _ => fun
  | [d1, d2, d3, d4, d5] => { results := [.lit (.bool false)], args := [d1, d2, d3, d4, d5] }
  | _ => none }
def ModuleRebasesWrongFalsely : Prop := moduleRebasesRow.holds Try.pinned (OpenSpec.ofChange moduleRebasesWrong)

/-- 'slatewalllaw14.ModuleNothingElse': WHATEVER THE INPUT: true; the input reads as it did. -/
def moduleNothingElseSpec : ChangeSpec := { name := "moduleNothingElse", fn := fun _ => fun
  | [d1, d2, d3, d4, d5, d6] => { results := [.lit (.bool true)], args := [d1, d2, d3, d4, d5, d6] }
  | _ => none }
def moduleNothingElseRow : OpenClaim := { program := "ytncdombfhcfobaa", sum := "d655771b5a30d61c0bd05af86c95a2af292e81a91d03f6dc4c8d4fc20f3f3fb1", func := "slatewall/slatewalllaw14.ModuleNothingElse", spec := "moduleNothingElse", unfollowed := true, recurses := true, apart := false }
def ModuleNothingElseSaid : Prop := moduleNothingElseRow.holds Try.pinned (OpenSpec.ofChange moduleNothingElseSpec)

/-- ITS FALSE NEIGHBOUR: 'it returns false'. Refute it at one input. -/
def moduleNothingElseWrong : ChangeSpec := { name := "moduleNothingElse", fn := fun _ => fun
  | [d1, d2, d3, d4, d5, d6] => { results := [.lit (.bool false)], args := [d1, d2, d3, d4, d5, d6] }
  | _ => none }
def ModuleNothingElseWrongFalsely : Prop := moduleNothingElseRow.holds Try.pinned (OpenSpec.ofChange moduleNothingElseWrong)

/-- 'slatewalllaw14.ModuleDiffers': WHATEVER THE INPUT: true; the input reads as it did. -/
def moduleDiffersSpec : ChangeSpec := { name := "moduleDiffers", fn := fun _ => fun
  | [d1, d2] => { results := [.lit (.bool true)], args := [d1, d2] }
  | _ => none }
def moduleDiffersRow : OpenClaim := { program := "ytncdombfhcfobaa", sum := "d655771b5a30d61c0bd05af86c95a2af292e81a91d03f6dc4c8d4fc20f3f3fb1", func := "slatewall/slatewalllaw14.ModuleDiffers", spec := "moduleDiffers", unfollowed := true, recurses := true, apart := false }
def ModuleDiffersSaid : Prop := moduleDiffersRow.holds Try.pinned (OpenSpec.ofChange moduleDiffersSpec)

/-- ITS FALSE NEIGHBOUR: 'it returns false'. Refute it at one input. -/
def moduleDiffersWrong : ChangeSpec := { name := "moduleDiffers", fn := fun _ => fun
  | [d1, d2] => { results := [.lit (.bool false)], args := [d1, d2] }
  | _ => none }
def ModuleDiffersWrongFalsely : Prop := moduleDiffersRow.holds Try.pinned (OpenSpec.ofChange moduleDiffersWrong)

/- THE SECOND FORM. 'bulk': how many values and letters a reading holds, each counted each time it is reached (what is shared counts as often as it is met; a slice's spare places count too). A statement '..UptoSaid' is the law's where the arguments, and the package variables that the reading takes, are together of bulk at most 1048576: NARROWER than '..Said'. Prove '..Said' where nothing that the law and all that it calls make is longer than what came in: it says more and counts as full. Else prove '..UptoSaid'. A law counts once. -/
mutual
def uptoBulk {H : Type} : DataW H → Nat
  | .lit (.string bytes) => bytes.length + 1
  | .lit _ => 1
  | .nil => 1
  | .ptr d => uptoBulk d + 1
  | .slice elems spare => uptoBulkAll elems + uptoBulkAll spare + 1
  | .agg parts => uptoBulkAll parts + 1
  | .iface _ d => uptoBulk d + 1
  | .map entries => uptoBulkEntries entries + 1
  | .held _ => 1
def uptoBulkAll {H : Type} : List (DataW H) → Nat
  | [] => 0
  | d :: r => uptoBulk d + uptoBulkAll r
def uptoBulkEntries {H : Type} : List (Lit × DataW H) → Nat
  | [] => 0
  | x :: r => uptoBulkEntry x + uptoBulkEntries r
def uptoBulkEntry {H : Type} : Lit × DataW H → Nat
  | (.string bytes, d) => bytes.length + uptoBulk d + 1
  | (_, d) => uptoBulk d + 1
 end
def uptoSmall : (H : Type) → List (DataW H) → Bool := fun _ ds => decide (uptoBulkAll ds ≤ 1048576)
def OpenSpec.upto (s : _root_.Go.ChangeSpec) : _root_.Go.OpenSpec := { _root_.Go.OpenSpec.ofChange s with cond := some uptoSmall }

/-- 'slatewalllaw14.ModuleMerges', WHERE WHAT IT READS IS OF BULK AT MOST 1048576: true; the input reads as it did. -/
def moduleMergesUptoRow : OpenClaim := { program := "ytncdombfhcfobaa", sum := "d655771b5a30d61c0bd05af86c95a2af292e81a91d03f6dc4c8d4fc20f3f3fb1", func := "slatewall/slatewalllaw14.ModuleMerges", spec := "moduleMerges", unfollowed := true, recurses := true, apart := false, narrowed := true }
def ModuleMergesUptoSaid : Prop := moduleMergesUptoRow.holds Try.pinned (OpenSpec.upto moduleMergesSpec)

/-- 'slatewalllaw14.ModuleBack', WHERE WHAT IT READS IS OF BULK AT MOST 1048576: true; the input reads as it did. -/
def moduleBackUptoRow : OpenClaim := { program := "ytncdombfhcfobaa", sum := "d655771b5a30d61c0bd05af86c95a2af292e81a91d03f6dc4c8d4fc20f3f3fb1", func := "slatewall/slatewalllaw14.ModuleBack", spec := "moduleBack", unfollowed := true, recurses := true, apart := false, narrowed := true }
def ModuleBackUptoSaid : Prop := moduleBackUptoRow.holds Try.pinned (OpenSpec.upto moduleBackSpec)

/-- 'slatewalllaw14.ModuleExpands', WHERE WHAT IT READS IS OF BULK AT MOST 1048576: true; the input reads as it did. -/
def moduleExpandsUptoRow : OpenClaim := { program := "ytncdombfhcfobaa", sum := "d655771b5a30d61c0bd05af86c95a2af292e81a91d03f6dc4c8d4fc20f3f3fb1", func := "slatewall/slatewalllaw14.ModuleExpands", spec := "moduleExpands", unfollowed := true, recurses := true, apart := false, narrowed := true }
def ModuleExpandsUptoSaid : Prop := moduleExpandsUptoRow.holds Try.pinned (OpenSpec.upto moduleExpandsSpec)

/-- 'slatewalllaw14.ModuleRebases', WHERE WHAT IT READS IS OF BULK AT MOST 1048576: true; the input reads as it did. -/
def moduleRebasesUptoRow : OpenClaim := { program := "ytncdombfhcfobaa", sum := "d655771b5a30d61c0bd05af86c95a2af292e81a91d03f6dc4c8d4fc20f3f3fb1", func := "slatewall/slatewalllaw14.ModuleRebases", spec := "moduleRebases", unfollowed := true, recurses := true, apart := false, narrowed := true }
def ModuleRebasesUptoSaid : Prop := moduleRebasesUptoRow.holds Try.pinned (OpenSpec.upto moduleRebasesSpec)

/-- 'slatewalllaw14.ModuleNothingElse', WHERE WHAT IT READS IS OF BULK AT MOST 1048576: true; the input reads as it did. -/
def moduleNothingElseUptoRow : OpenClaim := { program := "ytncdombfhcfobaa", sum := "d655771b5a30d61c0bd05af86c95a2af292e81a91d03f6dc4c8d4fc20f3f3fb1", func := "slatewall/slatewalllaw14.ModuleNothingElse", spec := "moduleNothingElse", unfollowed := true, recurses := true, apart := false, narrowed := true }
def ModuleNothingElseUptoSaid : Prop := moduleNothingElseUptoRow.holds Try.pinned (OpenSpec.upto moduleNothingElseSpec)

/-- 'slatewalllaw14.ModuleDiffers', WHERE WHAT IT READS IS OF BULK AT MOST 1048576: true; the input reads as it did. -/
def moduleDiffersUptoRow : OpenClaim := { program := "ytncdombfhcfobaa", sum := "d655771b5a30d61c0bd05af86c95a2af292e81a91d03f6dc4c8d4fc20f3f3fb1", func := "slatewall/slatewalllaw14.ModuleDiffers", spec := "moduleDiffers", unfollowed := true, recurses := true, apart := false, narrowed := true }
def ModuleDiffersUptoSaid : Prop := moduleDiffersUptoRow.holds Try.pinned (OpenSpec.upto moduleDiffersSpec)

end Rows
end Go.Proofs.Ytncdombfhcfobaa
