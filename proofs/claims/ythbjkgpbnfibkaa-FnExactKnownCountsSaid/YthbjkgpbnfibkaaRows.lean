/-
  No cell of these rows narrows 'for every input' (looked for: loops, veiled, ifaces, maps, wideKeys, modest, calm, conditions, laid).
  DERIVED. THE GIVEN ROWS OF THIS SEAT. 12 by the template 'for every input the law returns true; each argument reads behind the call as it read before'; 0 by the template 'total and deterministic' (their statements: YthbjkgpbnfibkaaTotals.lean).
  GIVEN WITH THE SEED: the statements are not yours to turn. If you find one false, say at which input.
  Laid BY PROGRAM, IN A SANDBOX (cutbox-rows.mjs): the forced cells as the released guide's own fill.sh prints them over the translation 6fa9643fa6532046… (all of the seat's roots in one cut). By AI agents, Wed Nov 11 2026. No macro, syntax, notation, axiom, sorry.
-/
import Derived.Test.YthbjkgpbnfibkaaChecked
import GoSem.Claim
import GoSem.ClaimJoined
import GoSem.ClaimMapViews
import Derived.JoinedTies
import Derived.KernelRfl
namespace Go.Proofs.Ythbjkgpbnfibkaa
/- THE CELL 'sum', in the pinned program and in every row, IS THE sha256 OF THE DUMP (.gsa) THAT YthbjkgpbnfibkaaProg.lean LOADS. Nothing in Lean hashes anything: it is a label: what it is worth is what the hold of that sum in a sandbox is worth. -/
noncomputable def Try.pinned : Pinned := { name := "ythbjkgpbnfibkaa", sum := "6fa9643fa65320461009945a08d0342973f0c74ab2978185e70d7f3d5224166f", checked := Try.checked }
namespace Rows
def none {H : Type} : Left H := { results := [], args := [] }

/-- 'laws.FnExactSameLows': WHATEVER THE INPUT: true; the input reads as it did. -/
def fnExactSameLowsSpec : ChangeSpec := { name := "fnExactSameLows", fn := fun _ => fun
  | [d1, d2] => { results := [.lit (.bool true)], args := [d1, d2] }
  | _ => none }
def fnExactSameLowsRow : OpenClaim := { program := "ythbjkgpbnfibkaa", sum := "6fa9643fa65320461009945a08d0342973f0c74ab2978185e70d7f3d5224166f", func := "loop.example/g03101/laws.FnExactSameLows", spec := "fnExactSameLows", unfollowed := true, recurses := true, apart := false }
def FnExactSameLowsSaid : Prop := fnExactSameLowsRow.holds Try.pinned (OpenSpec.ofChange fnExactSameLowsSpec)

/-- ITS FALSE NEIGHBOUR: 'it returns false'. Refute it at one input. -/
def fnExactSameLowsWrong : ChangeSpec := { name := "fnExactSameLows", fn := fun _ => fun
  | [d1, d2] => { results := [.lit (.bool false)], args := [d1, d2] }
  | _ => none }
def FnExactSameLowsWrongFalsely : Prop := fnExactSameLowsRow.holds Try.pinned (OpenSpec.ofChange fnExactSameLowsWrong)

/-- 'laws.FnExactRuleCounts': WHATEVER THE INPUT: true; the input reads as it did. -/
def fnExactRuleCountsSpec : ChangeSpec := { name := "fnExactRuleCounts", fn := fun _ => fun
  | [d1, d2, d3] => { results := [.lit (.bool true)], args := [d1, d2, d3] }
  | _ => none }
def fnExactRuleCountsRow : OpenClaim := { program := "ythbjkgpbnfibkaa", sum := "6fa9643fa65320461009945a08d0342973f0c74ab2978185e70d7f3d5224166f", func := "loop.example/g03101/laws.FnExactRuleCounts", spec := "fnExactRuleCounts", unfollowed := true, recurses := true, apart := false }
def FnExactRuleCountsSaid : Prop := fnExactRuleCountsRow.holds Try.pinned (OpenSpec.ofChange fnExactRuleCountsSpec)

/-- ITS FALSE NEIGHBOUR: 'it returns false'. Refute it at one input. -/
def fnExactRuleCountsWrong : ChangeSpec := { name := "fnExactRuleCounts", fn := fun _ => fun
  | [d1, d2, d3] => { results := [.lit (.bool false)], args := [d1, d2, d3] }
  | _ => none }
def FnExactRuleCountsWrongFalsely : Prop := fnExactRuleCountsRow.holds Try.pinned (OpenSpec.ofChange fnExactRuleCountsWrong)

/-- 'laws.FnExactChildAt': WHATEVER THE INPUT: true; the input reads as it did. -/
def fnExactChildAtSpec : ChangeSpec := { name := "fnExactChildAt", fn := fun _ => fun
  | [d1, d2] => { results := [.lit (.bool true)], args := [d1, d2] }
  | _ => none }
def fnExactChildAtRow : OpenClaim := { program := "ythbjkgpbnfibkaa", sum := "6fa9643fa65320461009945a08d0342973f0c74ab2978185e70d7f3d5224166f", func := "loop.example/g03101/laws.FnExactChildAt", spec := "fnExactChildAt", inPlace := ["slices.overlaps[int]"], apart := false }
def FnExactChildAtSaid : Prop := fnExactChildAtRow.holds Try.pinned (OpenSpec.ofChange fnExactChildAtSpec)

/-- ITS FALSE NEIGHBOUR: 'it returns false'. Refute it at one input. -/
def fnExactChildAtWrong : ChangeSpec := { name := "fnExactChildAt", fn := fun _ => fun
  | [d1, d2] => { results := [.lit (.bool false)], args := [d1, d2] }
  | _ => none }
def FnExactChildAtWrongFalsely : Prop := fnExactChildAtRow.holds Try.pinned (OpenSpec.ofChange fnExactChildAtWrong)

/-- 'laws.FnExactAreWilfLike': WHATEVER THE INPUT: true; the input reads as it did. -/
def fnExactAreWilfLikeSpec : ChangeSpec := { name := "fnExactAreWilfLike", fn := fun _ => fun
  | [d1, d2, d3] => { results := [.lit (.bool true)], args := [d1, d2, d3] }
  | _ => none }
def fnExactAreWilfLikeRow : OpenClaim := { program := "ythbjkgpbnfibkaa", sum := "6fa9643fa65320461009945a08d0342973f0c74ab2978185e70d7f3d5224166f", func := "loop.example/g03101/laws.FnExactAreWilfLike", spec := "fnExactAreWilfLike", unfollowed := true, recurses := true, apart := false }
def FnExactAreWilfLikeSaid : Prop := fnExactAreWilfLikeRow.holds Try.pinned (OpenSpec.ofChange fnExactAreWilfLikeSpec)

/-- ITS FALSE NEIGHBOUR: 'it returns false'. Refute it at one input. -/
def fnExactAreWilfLikeWrong : ChangeSpec := { name := "fnExactAreWilfLike", fn := fun _ => fun
  | [d1, d2, d3] => { results := [.lit (.bool false)], args := [d1, d2, d3] }
  | _ => none }
def FnExactAreWilfLikeWrongFalsely : Prop := fnExactAreWilfLikeRow.holds Try.pinned (OpenSpec.ofChange fnExactAreWilfLikeWrong)

/-- 'laws.FnExactLowCounts': WHATEVER THE INPUT: true; the input reads as it did. -/
def fnExactLowCountsSpec : ChangeSpec := { name := "fnExactLowCounts", fn := fun _ => fun
  | [d1, d2] => { results := [.lit (.bool true)], args := [d1, d2] }
  | _ => none }
def fnExactLowCountsRow : OpenClaim := { program := "ythbjkgpbnfibkaa", sum := "6fa9643fa65320461009945a08d0342973f0c74ab2978185e70d7f3d5224166f", func := "loop.example/g03101/laws.FnExactLowCounts", spec := "fnExactLowCounts", unfollowed := true, recurses := true, apart := false }
def FnExactLowCountsSaid : Prop := fnExactLowCountsRow.holds Try.pinned (OpenSpec.ofChange fnExactLowCountsSpec)

/-- ITS FALSE NEIGHBOUR: 'it returns false'. Refute it at one input. -/
def fnExactLowCountsWrong : ChangeSpec := { name := "fnExactLowCounts", fn := fun _ => fun
  | [d1, d2] => { results := [.lit (.bool false)], args := [d1, d2] }
  | _ => none }
def FnExactLowCountsWrongFalsely : Prop := fnExactLowCountsRow.holds Try.pinned (OpenSpec.ofChange fnExactLowCountsWrong)

/-- 'laws.FnExactLabelOf': WHATEVER THE INPUT: true; the input reads as it did. -/
def fnExactLabelOfSpec : ChangeSpec := { name := "fnExactLabelOf", fn := fun _ => fun
  | [d1, d2] => { results := [.lit (.bool true)], args := [d1, d2] }
  | _ => none }
def fnExactLabelOfRow : OpenClaim := { program := "ythbjkgpbnfibkaa", sum := "6fa9643fa65320461009945a08d0342973f0c74ab2978185e70d7f3d5224166f", func := "loop.example/g03101/laws.FnExactLabelOf", spec := "fnExactLabelOf", inPlace := ["slices.overlaps[int]"], unfollowed := true, recurses := true, apart := false }
def FnExactLabelOfSaid : Prop := fnExactLabelOfRow.holds Try.pinned (OpenSpec.ofChange fnExactLabelOfSpec)

/-- ITS FALSE NEIGHBOUR: 'it returns false'. Refute it at one input. -/
def fnExactLabelOfWrong : ChangeSpec := { name := "fnExactLabelOf", fn := fun _ => fun
  | [d1, d2] => { results := [.lit (.bool false)], args := [d1, d2] }
  | _ => none }
def FnExactLabelOfWrongFalsely : Prop := fnExactLabelOfRow.holds Try.pinned (OpenSpec.ofChange fnExactLabelOfWrong)

/-- 'laws.FnExactActiveSites': WHATEVER THE INPUT: true; the input reads as it did. -/
def fnExactActiveSitesSpec : ChangeSpec := { name := "fnExactActiveSites", fn := fun _ => fun
  | [d1, d2] => { results := [.lit (.bool true)], args := [d1, d2] }
  | _ => none }
def fnExactActiveSitesRow : OpenClaim := { program := "ythbjkgpbnfibkaa", sum := "6fa9643fa65320461009945a08d0342973f0c74ab2978185e70d7f3d5224166f", func := "loop.example/g03101/laws.FnExactActiveSites", spec := "fnExactActiveSites", inPlace := ["slices.overlaps[int]"], unfollowed := true, recurses := true, apart := false }
def FnExactActiveSitesSaid : Prop := fnExactActiveSitesRow.holds Try.pinned (OpenSpec.ofChange fnExactActiveSitesSpec)

/-- ITS FALSE NEIGHBOUR: 'it returns false'. Refute it at one input. -/
def fnExactActiveSitesWrong : ChangeSpec := { name := "fnExactActiveSites", fn := fun _ => fun
  | [d1, d2] => { results := [.lit (.bool false)], args := [d1, d2] }
  | _ => none }
def FnExactActiveSitesWrongFalsely : Prop := fnExactActiveSitesRow.holds Try.pinned (OpenSpec.ofChange fnExactActiveSitesWrong)

/-- 'laws.FnExactWilfGroups': WHATEVER THE INPUT: true; the input reads as it did. -/
def fnExactWilfGroupsSpec : ChangeSpec := { name := "fnExactWilfGroups", fn := fun _ => fun
  | [d1, d2] => { results := [.lit (.bool true)], args := [d1, d2] }
  | _ => none }
def fnExactWilfGroupsRow : OpenClaim := { program := "ythbjkgpbnfibkaa", sum := "6fa9643fa65320461009945a08d0342973f0c74ab2978185e70d7f3d5224166f", func := "loop.example/g03101/laws.FnExactWilfGroups", spec := "fnExactWilfGroups", unfollowed := true, recurses := true, apart := false }
def FnExactWilfGroupsSaid : Prop := fnExactWilfGroupsRow.holds Try.pinned (OpenSpec.ofChange fnExactWilfGroupsSpec)

/-- ITS FALSE NEIGHBOUR: 'it returns false'. Refute it at one input. -/
def fnExactWilfGroupsWrong : ChangeSpec := { name := "fnExactWilfGroups", fn := fun _ => fun
  | [d1, d2] => { results := [.lit (.bool false)], args := [d1, d2] }
  | _ => none }
def FnExactWilfGroupsWrongFalsely : Prop := fnExactWilfGroupsRow.holds Try.pinned (OpenSpec.ofChange fnExactWilfGroupsWrong)

/-- 'laws.FnExactChildrenOf': WHATEVER THE INPUT: true; the input reads as it did. -/
def fnExactChildrenOfSpec : ChangeSpec := { name := "fnExactChildrenOf", fn := fun _ => fun
  | [d1, d2] => { results := [.lit (.bool true)], args := [d1, d2] }
  | _ => none }
def fnExactChildrenOfRow : OpenClaim := { program := "ythbjkgpbnfibkaa", sum := "6fa9643fa65320461009945a08d0342973f0c74ab2978185e70d7f3d5224166f", func := "loop.example/g03101/laws.FnExactChildrenOf", spec := "fnExactChildrenOf", inPlace := ["slices.overlaps[int]"], unfollowed := true, recurses := true, apart := false }
def FnExactChildrenOfSaid : Prop := fnExactChildrenOfRow.holds Try.pinned (OpenSpec.ofChange fnExactChildrenOfSpec)

/-- ITS FALSE NEIGHBOUR: 'it returns false'. Refute it at one input. -/
def fnExactChildrenOfWrong : ChangeSpec := { name := "fnExactChildrenOf", fn := fun _ => fun
  | [d1, d2] => { results := [.lit (.bool false)], args := [d1, d2] }
  | _ => none }
def FnExactChildrenOfWrongFalsely : Prop := fnExactChildrenOfRow.holds Try.pinned (OpenSpec.ofChange fnExactChildrenOfWrong)

/-- 'laws.FnExactLevelSizes': WHATEVER THE INPUT: true; the input reads as it did. -/
def fnExactLevelSizesSpec : ChangeSpec := { name := "fnExactLevelSizes", fn := fun _ => fun
  | [d1, d2] => { results := [.lit (.bool true)], args := [d1, d2] }
  | _ => none }
def fnExactLevelSizesRow : OpenClaim := { program := "ythbjkgpbnfibkaa", sum := "6fa9643fa65320461009945a08d0342973f0c74ab2978185e70d7f3d5224166f", func := "loop.example/g03101/laws.FnExactLevelSizes", spec := "fnExactLevelSizes", inPlace := ["slices.overlaps[int]"], unfollowed := true, recurses := true, apart := false }
def FnExactLevelSizesSaid : Prop := fnExactLevelSizesRow.holds Try.pinned (OpenSpec.ofChange fnExactLevelSizesSpec)

/-- ITS FALSE NEIGHBOUR: 'it returns false'. Refute it at one input. -/
def fnExactLevelSizesWrong : ChangeSpec := { name := "fnExactLevelSizes", fn := fun _ => fun
  | [d1, d2] => { results := [.lit (.bool false)], args := [d1, d2] }
  | _ => none }
def FnExactLevelSizesWrongFalsely : Prop := fnExactLevelSizesRow.holds Try.pinned (OpenSpec.ofChange fnExactLevelSizesWrong)

/-- 'laws.FnExactLeafCount': WHATEVER THE INPUT: true; the input reads as it did. -/
def fnExactLeafCountSpec : ChangeSpec := { name := "fnExactLeafCount", fn := fun _ => fun
  | [d1, d2] => { results := [.lit (.bool true)], args := [d1, d2] }
  | _ => none }
def fnExactLeafCountRow : OpenClaim := { program := "ythbjkgpbnfibkaa", sum := "6fa9643fa65320461009945a08d0342973f0c74ab2978185e70d7f3d5224166f", func := "loop.example/g03101/laws.FnExactLeafCount", spec := "fnExactLeafCount", inPlace := ["slices.overlaps[int]"], unfollowed := true, recurses := true, apart := false }
def FnExactLeafCountSaid : Prop := fnExactLeafCountRow.holds Try.pinned (OpenSpec.ofChange fnExactLeafCountSpec)

/-- ITS FALSE NEIGHBOUR: 'it returns false'. Refute it at one input. -/
def fnExactLeafCountWrong : ChangeSpec := { name := "fnExactLeafCount", fn := fun _ => fun
  | [d1, d2] => { results := [.lit (.bool false)], args := [d1, d2] }
  | _ => none }
def FnExactLeafCountWrongFalsely : Prop := fnExactLeafCountRow.holds Try.pinned (OpenSpec.ofChange fnExactLeafCountWrong)

/-- 'laws.FnExactKnownCounts': WHATEVER THE INPUT: true; the input reads as it did. -/
def fnExactKnownCountsSpec : ChangeSpec := { name := "fnExactKnownCounts", fn := fun _ => fun
  | [d1, d2] => { results := [.lit (.bool true)], args := [d1, d2] }
  | _ => none }
def fnExactKnownCountsRow : OpenClaim := { program := "ythbjkgpbnfibkaa", sum := "6fa9643fa65320461009945a08d0342973f0c74ab2978185e70d7f3d5224166f", func := "loop.example/g03101/laws.FnExactKnownCounts", spec := "fnExactKnownCounts", unfollowed := true, recurses := true, apart := false }
def FnExactKnownCountsSaid : Prop := fnExactKnownCountsRow.holds Try.pinned (OpenSpec.ofChange fnExactKnownCountsSpec)

/-- ITS FALSE NEIGHBOUR: 'it returns false'. Refute it at one input. -/
def fnExactKnownCountsWrong : ChangeSpec := { name := "fnExactKnownCounts", fn := fun _ => fun
  | [d1, d2] => { results := [.lit (.bool false)], args := [d1, d2] }
  | _ => none }
def FnExactKnownCountsWrongFalsely : Prop := fnExactKnownCountsRow.holds Try.pinned (OpenSpec.ofChange fnExactKnownCountsWrong)

/- THE SECOND FORM. 'bulk': how many values and letters a reading holds, each counted each time it is reached (what is shared counts as often as it is met; a slice's spare places count too). A statement '..UptoSaid' is the law's where the arguments, and the package variables that the reading takes, are together of bulk at most 1048576: NARROWER than '..Said'. Prove '..Said' where nothing that the law and all that it calls make is longer than what came in: it says more and counts as full. Else prove '..UptoSaid'. A law counts once. -/
mutual
def uptoBulk {H : Type} : DataW H → Nat
  | .lit (.string bytes) => bytes.length + 1
  | .lit _ => 1
  | .nil => 1
  | .ptr d => uptoBulk d + 1
  | .slice elems spare => uptoBulkAll elems + uptoBulkAll spare + 1
  | .agg parts => uptoBulkAll parts + 1
  | .iface _ d => uptoBulk d + 1
  | .map entries => uptoBulkEntries entries + 1
  | .held _ => 1
def uptoBulkAll {H : Type} : List (DataW H) → Nat
  | [] => 0
  | d :: r => uptoBulk d + uptoBulkAll r
def uptoBulkEntries {H : Type} : List (Lit × DataW H) → Nat
  | [] => 0
  | x :: r => uptoBulkEntry x + uptoBulkEntries r
def uptoBulkEntry {H : Type} : Lit × DataW H → Nat
  | (.string bytes, d) => bytes.length + uptoBulk d + 1
  | (_, d) => uptoBulk d + 1
 end
def uptoSmall : (H : Type) → List (DataW H) → Bool := fun _ ds => decide (uptoBulkAll ds ≤ 1048576)
def OpenSpec.upto (s : _root_.Go.ChangeSpec) : _root_.Go.OpenSpec := { _root_.Go.OpenSpec.ofChange s with cond := some uptoSmall }

/-- 'laws.FnExactSameLows', WHERE WHAT IT READS IS OF BULK AT MOST 1048576: true; the input reads as it did. -/
def fnExactSameLowsUptoRow : OpenClaim := { program := "ythbjkgpbnfibkaa", sum := "6fa9643fa65320461009945a08d0342973f0c74ab2978185e70d7f3d5224166f", func := "loop.example/g03101/laws.FnExactSameLows", spec := "fnExactSameLows", unfollowed := true, recurses := true, apart := false, narrowed := true }
def FnExactSameLowsUptoSaid : Prop := fnExactSameLowsUptoRow.holds Try.pinned (OpenSpec.upto fnExactSameLowsSpec)

/-- 'laws.FnExactRuleCounts', WHERE WHAT IT READS IS OF BULK AT MOST 1048576: true; the input reads as it did. -/
def fnExactRuleCountsUptoRow : OpenClaim := { program := "ythbjkgpbnfibkaa", sum := "6fa9643fa65320461009945a08d0342973f0c74ab2978185e70d7f3d5224166f", func := "loop.example/g03101/laws.FnExactRuleCounts", spec := "fnExactRuleCounts", unfollowed := true, recurses := true, apart := false, narrowed := true }
def FnExactRuleCountsUptoSaid : Prop := fnExactRuleCountsUptoRow.holds Try.pinned (OpenSpec.upto fnExactRuleCountsSpec)

/-- 'laws.FnExactChildAt', WHERE WHAT IT READS IS OF BULK AT MOST 1048576: true; the input reads as it did. -/
def fnExactChildAtUptoRow : OpenClaim := { program := "ythbjkgpbnfibkaa", sum := "6fa9643fa65320461009945a08d0342973f0c74ab2978185e70d7f3d5224166f", func := "loop.example/g03101/laws.FnExactChildAt", spec := "fnExactChildAt", inPlace := ["slices.overlaps[int]"], apart := false, narrowed := true }
def FnExactChildAtUptoSaid : Prop := fnExactChildAtUptoRow.holds Try.pinned (OpenSpec.upto fnExactChildAtSpec)

/-- 'laws.FnExactAreWilfLike', WHERE WHAT IT READS IS OF BULK AT MOST 1048576: true; the input reads as it did. -/
def fnExactAreWilfLikeUptoRow : OpenClaim := { program := "ythbjkgpbnfibkaa", sum := "6fa9643fa65320461009945a08d0342973f0c74ab2978185e70d7f3d5224166f", func := "loop.example/g03101/laws.FnExactAreWilfLike", spec := "fnExactAreWilfLike", unfollowed := true, recurses := true, apart := false, narrowed := true }
def FnExactAreWilfLikeUptoSaid : Prop := fnExactAreWilfLikeUptoRow.holds Try.pinned (OpenSpec.upto fnExactAreWilfLikeSpec)

/-- 'laws.FnExactLowCounts', WHERE WHAT IT READS IS OF BULK AT MOST 1048576: true; the input reads as it did. -/
def fnExactLowCountsUptoRow : OpenClaim := { program := "ythbjkgpbnfibkaa", sum := "6fa9643fa65320461009945a08d0342973f0c74ab2978185e70d7f3d5224166f", func := "loop.example/g03101/laws.FnExactLowCounts", spec := "fnExactLowCounts", unfollowed := true, recurses := true, apart := false, narrowed := true }
def FnExactLowCountsUptoSaid : Prop := fnExactLowCountsUptoRow.holds Try.pinned (OpenSpec.upto fnExactLowCountsSpec)

/-- 'laws.FnExactLabelOf', WHERE WHAT IT READS IS OF BULK AT MOST 1048576: true; the input reads as it did. -/
def fnExactLabelOfUptoRow : OpenClaim := { program := "ythbjkgpbnfibkaa", sum := "6fa9643fa65320461009945a08d0342973f0c74ab2978185e70d7f3d5224166f", func := "loop.example/g03101/laws.FnExactLabelOf", spec := "fnExactLabelOf", inPlace := ["slices.overlaps[int]"], unfollowed := true, recurses := true, apart := false, narrowed := true }
def FnExactLabelOfUptoSaid : Prop := fnExactLabelOfUptoRow.holds Try.pinned (OpenSpec.upto fnExactLabelOfSpec)

/-- 'laws.FnExactActiveSites', WHERE WHAT IT READS IS OF BULK AT MOST 1048576: true; the input reads as it did. -/
def fnExactActiveSitesUptoRow : OpenClaim := { program := "ythbjkgpbnfibkaa", sum := "6fa9643fa65320461009945a08d0342973f0c74ab2978185e70d7f3d5224166f", func := "loop.example/g03101/laws.FnExactActiveSites", spec := "fnExactActiveSites", inPlace := ["slices.overlaps[int]"], unfollowed := true, recurses := true, apart := false, narrowed := true }
def FnExactActiveSitesUptoSaid : Prop := fnExactActiveSitesUptoRow.holds Try.pinned (OpenSpec.upto fnExactActiveSitesSpec)

/-- 'laws.FnExactWilfGroups', WHERE WHAT IT READS IS OF BULK AT MOST 1048576: true; the input reads as it did. -/
def fnExactWilfGroupsUptoRow : OpenClaim := { program := "ythbjkgpbnfibkaa", sum := "6fa9643fa65320461009945a08d0342973f0c74ab2978185e70d7f3d5224166f", func := "loop.example/g03101/laws.FnExactWilfGroups", spec := "fnExactWilfGroups", unfollowed := true, recurses := true, apart := false, narrowed := true }
def FnExactWilfGroupsUptoSaid : Prop := fnExactWilfGroupsUptoRow.holds Try.pinned (OpenSpec.upto fnExactWilfGroupsSpec)

/-- 'laws.FnExactChildrenOf', WHERE WHAT IT READS IS OF BULK AT MOST 1048576: true; the input reads as it did. -/
def fnExactChildrenOfUptoRow : OpenClaim := { program := "ythbjkgpbnfibkaa", sum := "6fa9643fa65320461009945a08d0342973f0c74ab2978185e70d7f3d5224166f", func := "loop.example/g03101/laws.FnExactChildrenOf", spec := "fnExactChildrenOf", inPlace := ["slices.overlaps[int]"], unfollowed := true, recurses := true, apart := false, narrowed := true }
def FnExactChildrenOfUptoSaid : Prop := fnExactChildrenOfUptoRow.holds Try.pinned (OpenSpec.upto fnExactChildrenOfSpec)

/-- 'laws.FnExactLevelSizes', WHERE WHAT IT READS IS OF BULK AT MOST 1048576: true; the input reads as it did. -/
def fnExactLevelSizesUptoRow : OpenClaim := { program := "ythbjkgpbnfibkaa", sum := "6fa9643fa65320461009945a08d0342973f0c74ab2978185e70d7f3d5224166f", func := "loop.example/g03101/laws.FnExactLevelSizes", spec := "fnExactLevelSizes", inPlace := ["slices.overlaps[int]"], unfollowed := true, recurses := true, apart := false, narrowed := true }
def FnExactLevelSizesUptoSaid : Prop := fnExactLevelSizesUptoRow.holds Try.pinned (OpenSpec.upto fnExactLevelSizesSpec)

/-- 'laws.FnExactLeafCount', WHERE WHAT IT READS IS OF BULK AT MOST 1048576: true; the input reads as it did. -/
def fnExactLeafCountUptoRow : OpenClaim := { program := "ythbjkgpbnfibkaa", sum := "6fa9643fa65320461009945a08d0342973f0c74ab2978185e70d7f3d5224166f", func := "loop.example/g03101/laws.FnExactLeafCount", spec := "fnExactLeafCount", inPlace := ["slices.overlaps[int]"], unfollowed := true, recurses := true, apart := false, narrowed := true }
def FnExactLeafCountUptoSaid : Prop := fnExactLeafCountUptoRow.holds Try.pinned (OpenSpec.upto fnExactLeafCountSpec)

/-- 'laws.FnExactKnownCounts', WHERE WHAT IT READS IS OF BULK AT MOST 1048576: true; the input reads as it did. -/
def fnExactKnownCountsUptoRow : OpenClaim := { program := "ythbjkgpbnfibkaa", sum := "6fa9643fa65320461009945a08d0342973f0c74ab2978185e70d7f3d5224166f", func := "loop.example/g03101/laws.FnExactKnownCounts", spec := "fnExactKnownCounts", unfollowed := true, recurses := true, apart := false, narrowed := true }
def FnExactKnownCountsUptoSaid : Prop := fnExactKnownCountsUptoRow.holds Try.pinned (OpenSpec.upto fnExactKnownCountsSpec)

end Rows
end Go.Proofs.Ythbjkgpbnfibkaa
