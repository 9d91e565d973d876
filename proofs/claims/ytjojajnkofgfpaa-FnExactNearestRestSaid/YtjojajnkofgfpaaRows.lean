/-
  No cell of these rows narrows 'for every input' (looked for: loops, veiled, ifaces, maps, wideKeys, modest, calm, conditions, laid).
  DERIVED. THE GIVEN ROWS OF THIS SEAT. 5 by the template 'for every input the law returns true; each argument reads behind the call as it read before'; 0 by the template 'total and deterministic' (their statements: YtjojajnkofgfpaaTotals.lean).
  GIVEN WITH THE SEED: the statements are not yours to turn. If you find one false, say at which input.
  Laid BY PROGRAM, IN A SANDBOX (cutbox-rows.mjs): the forced cells as the released guide's own fill.sh prints them over the translation 4d222f437f806ad4… (all of the seat's roots in one cut). By AI agents, Wed Nov 11 2026. No macro, syntax, notation, axiom, sorry.
-/
import Derived.Test.YtjojajnkofgfpaaChecked
import GoSem.Claim
import GoSem.ClaimJoined
import GoSem.ClaimMapViews
import Derived.JoinedTies
import Derived.KernelRfl
namespace Go.Proofs.Ytjojajnkofgfpaa
/- THE CELL 'sum', in the pinned program and in every row, IS THE sha256 OF THE DUMP (.gsa) THAT YtjojajnkofgfpaaProg.lean LOADS. Nothing in Lean hashes anything: it is a label: what it is worth is what the hold of that sum in a sandbox is worth. -/
noncomputable def Try.pinned : Pinned := { name := "ytjojajnkofgfpaa", sum := "4d222f437f806ad4686de2045b9aa0793fda7d00f19ababed971c5d3bf732d0a", checked := Try.checked }
namespace Rows
def none {H : Type} : Left H := { results := [], args := [] }

/-- 'laws.FnExactDescendingRest': WHATEVER THE INPUT: true; the input reads as it did. -/
def fnExactDescendingRestSpec : ChangeSpec := { name := "fnExactDescendingRest", fn := fun _ => fun
  | [d] => { results := [.lit (.bool true)], args := [d] }
  | _ => none }
def fnExactDescendingRestRow : OpenClaim := { program := "ytjojajnkofgfpaa", sum := "4d222f437f806ad4686de2045b9aa0793fda7d00f19ababed971c5d3bf732d0a", func := "loop.example/g03101/laws.FnExactDescendingRest", spec := "fnExactDescendingRest", unfollowed := true, recurses := true, apart := false }
def FnExactDescendingRestSaid : Prop := fnExactDescendingRestRow.holds Try.pinned (OpenSpec.ofChange fnExactDescendingRestSpec)

/-- ITS FALSE NEIGHBOUR: 'it returns false'. Refute it at one input. -/
def fnExactDescendingRestWrong : ChangeSpec := { name := "fnExactDescendingRest", fn := fun _ => fun
  | [d] => { results := [.lit (.bool false)], args := [d] }
  | _ => none }
def FnExactDescendingRestWrongFalsely : Prop := fnExactDescendingRestRow.holds Try.pinned (OpenSpec.ofChange fnExactDescendingRestWrong)

/-- 'laws.FnExactNearestRest': WHATEVER THE INPUT: true; the input reads as it did. -/
def fnExactNearestRestSpec : ChangeSpec := { name := "fnExactNearestRest", fn := fun _ => fun
  | [d] => { results := [.lit (.bool true)], args := [d] }
  | _ => none }
def fnExactNearestRestRow : OpenClaim := { program := "ytjojajnkofgfpaa", sum := "4d222f437f806ad4686de2045b9aa0793fda7d00f19ababed971c5d3bf732d0a", func := "loop.example/g03101/laws.FnExactNearestRest", spec := "fnExactNearestRest", unfollowed := true, recurses := true, apart := false }
def FnExactNearestRestSaid : Prop := fnExactNearestRestRow.holds Try.pinned (OpenSpec.ofChange fnExactNearestRestSpec)

/-- ITS FALSE NEIGHBOUR: 'it returns false'. Refute it at one input. -/
def fnExactNearestRestWrong : ChangeSpec := { name := "fnExactNearestRest", fn := fun _ => fun
  | [d] => { results := [.lit (.bool false)], args := [d] }
  | _ => none }
def FnExactNearestRestWrongFalsely : Prop := fnExactNearestRestRow.holds Try.pinned (OpenSpec.ofChange fnExactNearestRestWrong)

/-- 'laws.FnExactChildLabels': WHATEVER THE INPUT: true; the input reads as it did. -/
def fnExactChildLabelsSpec : ChangeSpec := { name := "fnExactChildLabels", fn := fun _ => fun
  | [d1, d2] => { results := [.lit (.bool true)], args := [d1, d2] }
  | _ => none }
def fnExactChildLabelsRow : OpenClaim := { program := "ytjojajnkofgfpaa", sum := "4d222f437f806ad4686de2045b9aa0793fda7d00f19ababed971c5d3bf732d0a", func := "loop.example/g03101/laws.FnExactChildLabels", spec := "fnExactChildLabels", inPlace := ["slices.overlaps[int]"], unfollowed := true, recurses := true, apart := false }
def FnExactChildLabelsSaid : Prop := fnExactChildLabelsRow.holds Try.pinned (OpenSpec.ofChange fnExactChildLabelsSpec)

/-- ITS FALSE NEIGHBOUR: 'it returns false'. Refute it at one input. -/
def fnExactChildLabelsWrong : ChangeSpec := { name := "fnExactChildLabels", fn := fun _ => fun
  | [d1, d2] => { results := [.lit (.bool false)], args := [d1, d2] }
  | _ => none }
def FnExactChildLabelsWrongFalsely : Prop := fnExactChildLabelsRow.holds Try.pinned (OpenSpec.ofChange fnExactChildLabelsWrong)

/-- 'laws.FnExactLabelsAt': WHATEVER THE INPUT: true; the input reads as it did. -/
def fnExactLabelsAtSpec : ChangeSpec := { name := "fnExactLabelsAt", fn := fun _ => fun
  | [d1, d2] => { results := [.lit (.bool true)], args := [d1, d2] }
  | _ => none }
def fnExactLabelsAtRow : OpenClaim := { program := "ytjojajnkofgfpaa", sum := "4d222f437f806ad4686de2045b9aa0793fda7d00f19ababed971c5d3bf732d0a", func := "loop.example/g03101/laws.FnExactLabelsAt", spec := "fnExactLabelsAt", inPlace := ["slices.overlaps[int]"], unfollowed := true, recurses := true, apart := false }
def FnExactLabelsAtSaid : Prop := fnExactLabelsAtRow.holds Try.pinned (OpenSpec.ofChange fnExactLabelsAtSpec)

/-- ITS FALSE NEIGHBOUR: 'it returns false'. Refute it at one input. -/
def fnExactLabelsAtWrong : ChangeSpec := { name := "fnExactLabelsAt", fn := fun _ => fun
  | [d1, d2] => { results := [.lit (.bool false)], args := [d1, d2] }
  | _ => none }
def FnExactLabelsAtWrongFalsely : Prop := fnExactLabelsAtRow.holds Try.pinned (OpenSpec.ofChange fnExactLabelsAtWrong)

/-- 'laws.FnExactRuleUpTo': WHATEVER THE INPUT: true; the input reads as it did. -/
def fnExactRuleUpToSpec : ChangeSpec := { name := "fnExactRuleUpTo", fn := fun _ => fun
  | [d1, d2] => { results := [.lit (.bool true)], args := [d1, d2] }
  | _ => none }
def fnExactRuleUpToRow : OpenClaim := { program := "ytjojajnkofgfpaa", sum := "4d222f437f806ad4686de2045b9aa0793fda7d00f19ababed971c5d3bf732d0a", func := "loop.example/g03101/laws.FnExactRuleUpTo", spec := "fnExactRuleUpTo", inPlace := ["slices.overlaps[int]"], unfollowed := true, recurses := true, apart := false }
def FnExactRuleUpToSaid : Prop := fnExactRuleUpToRow.holds Try.pinned (OpenSpec.ofChange fnExactRuleUpToSpec)

/-- ITS FALSE NEIGHBOUR: 'it returns false'. Refute it at one input. -/
def fnExactRuleUpToWrong : ChangeSpec := { name := "fnExactRuleUpTo", fn := fun _ => fun
  | [d1, d2] => { results := [.lit (.bool false)], args := [d1, d2] }
  | _ => none }
def FnExactRuleUpToWrongFalsely : Prop := fnExactRuleUpToRow.holds Try.pinned (OpenSpec.ofChange fnExactRuleUpToWrong)

/- THE SECOND FORM. 'bulk': how many values and letters a reading holds, each counted each time it is reached (what is shared counts as often as it is met; a slice's spare places count too). A statement '..UptoSaid' is the law's where the arguments, and the package variables that the reading takes, are together of bulk at most 1048576: NARROWER than '..Said'. Prove '..Said' where nothing that the law and all that it calls make is longer than what came in: it says more and counts as full. Else prove '..UptoSaid'. A law counts once. -/
mutual
def uptoBulk {H : Type} : DataW H → Nat
  | .lit (.string bytes) => bytes.length + 1
  | .lit _ => 1
  | .nil => 1
  | .ptr d => uptoBulk d + 1
  | .slice elems spare => uptoBulkAll elems + uptoBulkAll spare + 1
  | .agg parts => uptoBulkAll parts + 1
  | .iface _ d => uptoBulk d + 1
  | .map entries => uptoBulkEntries entries + 1
  | .held _ => 1
def uptoBulkAll {H : Type} : List (DataW H) → Nat
  | [] => 0
  | d :: r => uptoBulk d + uptoBulkAll r
def uptoBulkEntries {H : Type} : List (Lit × DataW H) → Nat
  | [] => 0
  | x :: r => uptoBulkEntry x + uptoBulkEntries r
def uptoBulkEntry {H : Type} : Lit × DataW H → Nat
  | (.string bytes, d) => bytes.length + uptoBulk d + 1
  | (_, d) => uptoBulk d + 1
 end
def uptoSmall : (H : Type) → List (DataW H) → Bool := fun _ ds => decide (uptoBulkAll ds ≤ 1048576)
def OpenSpec.upto (s : _root_.Go.ChangeSpec) : _root_.Go.OpenSpec := { _root_.Go.OpenSpec.ofChange s with cond := some uptoSmall }

/-- 'laws.FnExactDescendingRest', WHERE WHAT IT READS IS OF BULK AT MOST 1048576: true; the input reads as it did. -/
def fnExactDescendingRestUptoRow : OpenClaim := { program := "ytjojajnkofgfpaa", sum := "4d222f437f806ad4686de2045b9aa0793fda7d00f19ababed971c5d3bf732d0a", func := "loop.example/g03101/laws.FnExactDescendingRest", spec := "fnExactDescendingRest", unfollowed := true, recurses := true, apart := false, narrowed := true }
def FnExactDescendingRestUptoSaid : Prop := fnExactDescendingRestUptoRow.holds Try.pinned (OpenSpec.upto fnExactDescendingRestSpec)

/-- 'laws.FnExactNearestRest', WHERE WHAT IT READS IS OF BULK AT MOST 1048576: true; the input reads as it did. -/
def fnExactNearestRestUptoRow : OpenClaim := { program := "ytjojajnkofgfpaa", sum := "4d222f437f806ad4686de2045b9aa0793fda7d00f19ababed971c5d3bf732d0a", func := "loop.example/g03101/laws.FnExactNearestRest", spec := "fnExactNearestRest", unfollowed := true, recurses := true, apart := false, narrowed := true }
def FnExactNearestRestUptoSaid : Prop := fnExactNearestRestUptoRow.holds Try.pinned (OpenSpec.upto fnExactNearestRestSpec)

/-- 'laws.FnExactChildLabels', WHERE WHAT IT READS IS OF BULK AT MOST 1048576: true; the input reads as it did. -/
def fnExactChildLabelsUptoRow : OpenClaim := { program := "ytjojajnkofgfpaa", sum := "4d222f437f806ad4686de2045b9aa0793fda7d00f19ababed971c5d3bf732d0a", func := "loop.example/g03101/laws.FnExactChildLabels", spec := "fnExactChildLabels", inPlace := ["slices.overlaps[int]"], unfollowed := true, recurses := true, apart := false, narrowed := true }
def FnExactChildLabelsUptoSaid : Prop := fnExactChildLabelsUptoRow.holds Try.pinned (OpenSpec.upto fnExactChildLabelsSpec)

/-- 'laws.FnExactLabelsAt', WHERE WHAT IT READS IS OF BULK AT MOST 1048576: true; the input reads as it did. -/
def fnExactLabelsAtUptoRow : OpenClaim := { program := "ytjojajnkofgfpaa", sum := "4d222f437f806ad4686de2045b9aa0793fda7d00f19ababed971c5d3bf732d0a", func := "loop.example/g03101/laws.FnExactLabelsAt", spec := "fnExactLabelsAt", inPlace := ["slices.overlaps[int]"], unfollowed := true, recurses := true, apart := false, narrowed := true }
def FnExactLabelsAtUptoSaid : Prop := fnExactLabelsAtUptoRow.holds Try.pinned (OpenSpec.upto fnExactLabelsAtSpec)

/-- 'laws.FnExactRuleUpTo', WHERE WHAT IT READS IS OF BULK AT MOST 1048576: true; the input reads as it did. -/
def fnExactRuleUpToUptoRow : OpenClaim := { program := "ytjojajnkofgfpaa", sum := "4d222f437f806ad4686de2045b9aa0793fda7d00f19ababed971c5d3bf732d0a", func := "loop.example/g03101/laws.FnExactRuleUpTo", spec := "fnExactRuleUpTo", inPlace := ["slices.overlaps[int]"], unfollowed := true, recurses := true, apart := false, narrowed := true }
def FnExactRuleUpToUptoSaid : Prop := fnExactRuleUpToUptoRow.holds Try.pinned (OpenSpec.upto fnExactRuleUpToSpec)

end Rows
end Go.Proofs.Ytjojajnkofgfpaa
