/-
  No cell of these rows narrows 'for every input' (looked for: loops, veiled, ifaces, maps, wideKeys, modest, calm, conditions, laid).
  DERIVED. THE GIVEN ROWS OF THIS SEAT. 12 by the template 'for every input the law returns true; each argument reads behind the call as it read before'; 0 by the template 'total and deterministic' (their statements: YtliabbhfagfagaaTotals.lean).
  GIVEN WITH THE SEED: the statements are not yours to turn. If you find one false, say at which input.
  Laid BY PROGRAM, IN A SANDBOX (cutbox-rows.mjs): the forced cells as the released guide's own fill.sh prints them over the translation b3d99eaa32457d7a… (all of the seat's roots in one cut). By AI agents, Wed Nov 11 2026. No macro, syntax, notation, axiom, sorry.
-/
import Derived.Test.YtliabbhfagfagaaChecked
import GoSem.Claim
import GoSem.ClaimJoined
import GoSem.ClaimMapViews
import Derived.JoinedTies
import Derived.KernelRfl
namespace Go.Proofs.Ytliabbhfagfagaa
/- THE CELL 'sum', in the pinned program and in every row, IS THE sha256 OF THE DUMP (.gsa) THAT YtliabbhfagfagaaProg.lean LOADS. Nothing in Lean hashes anything: it is a label: what it is worth is what the hold of that sum in a sandbox is worth. -/
noncomputable def Try.pinned : Pinned := { name := "ytliabbhfagfagaa", sum := "b3d99eaa32457d7a60e55f3074dd4a440cfd0a0e656afed44ababcdaa9be7bd9", checked := Try.checked }
namespace Rows
def none {H : Type} : Left H := { results := [], args := [] }

/-- 'laws.FnExactLongestUp': WHATEVER THE INPUT: true; the input reads as it did. -/
def fnExactLongestUpSpec : ChangeSpec := { name := "fnExactLongestUp", fn := fun _ => fun
  | [d] => { results := [.lit (.bool true)], args := [d] }
  | _ => none }
def fnExactLongestUpRow : OpenClaim := { program := "ytliabbhfagfagaa", sum := "b3d99eaa32457d7a60e55f3074dd4a440cfd0a0e656afed44ababcdaa9be7bd9", func := "loop.example/g03101/laws.FnExactLongestUp", spec := "fnExactLongestUp", plainKeys := false, apart := false }
def FnExactLongestUpSaid : Prop := fnExactLongestUpRow.holds Try.pinned (OpenSpec.ofChange fnExactLongestUpSpec)

/-- ITS FALSE NEIGHBOUR: 'it returns false'. Refute it at one input. -/
def fnExactLongestUpWrong : ChangeSpec := { name := "fnExactLongestUp", fn := fun _ => fun
  | [d] => { results := [.lit (.bool false)], args := [d] }
  | _ => none }
def FnExactLongestUpWrongFalsely : Prop := fnExactLongestUpRow.holds Try.pinned (OpenSpec.ofChange fnExactLongestUpWrong)

/-- 'laws.FnExactStackPass': WHATEVER THE INPUT: true; the input reads as it did. -/
def fnExactStackPassSpec : ChangeSpec := { name := "fnExactStackPass", fn := fun _ => fun
  | [d] => { results := [.lit (.bool true)], args := [d] }
  | _ => none }
def fnExactStackPassRow : OpenClaim := { program := "ytliabbhfagfagaa", sum := "b3d99eaa32457d7a60e55f3074dd4a440cfd0a0e656afed44ababcdaa9be7bd9", func := "loop.example/g03101/laws.FnExactStackPass", spec := "fnExactStackPass", plainKeys := false, apart := false }
def FnExactStackPassSaid : Prop := fnExactStackPassRow.holds Try.pinned (OpenSpec.ofChange fnExactStackPassSpec)

/-- ITS FALSE NEIGHBOUR: 'it returns false'. Refute it at one input. -/
def fnExactStackPassWrong : ChangeSpec := { name := "fnExactStackPass", fn := fun _ => fun
  | [d] => { results := [.lit (.bool false)], args := [d] }
  | _ => none }
def FnExactStackPassWrongFalsely : Prop := fnExactStackPassRow.holds Try.pinned (OpenSpec.ofChange fnExactStackPassWrong)

/-- 'laws.FnExactIsStackSorted': WHATEVER THE INPUT: true; the input reads as it did. -/
def fnExactIsStackSortedSpec : ChangeSpec := { name := "fnExactIsStackSorted", fn := fun _ => fun
  | [d] => { results := [.lit (.bool true)], args := [d] }
  | _ => none }
def fnExactIsStackSortedRow : OpenClaim := { program := "ytliabbhfagfagaa", sum := "b3d99eaa32457d7a60e55f3074dd4a440cfd0a0e656afed44ababcdaa9be7bd9", func := "loop.example/g03101/laws.FnExactIsStackSorted", spec := "fnExactIsStackSorted", plainKeys := false, apart := false }
def FnExactIsStackSortedSaid : Prop := fnExactIsStackSortedRow.holds Try.pinned (OpenSpec.ofChange fnExactIsStackSortedSpec)

/-- ITS FALSE NEIGHBOUR: 'it returns false'. Refute it at one input. -/
def fnExactIsStackSortedWrong : ChangeSpec := { name := "fnExactIsStackSorted", fn := fun _ => fun
  | [d] => { results := [.lit (.bool false)], args := [d] }
  | _ => none }
def FnExactIsStackSortedWrongFalsely : Prop := fnExactIsStackSortedRow.holds Try.pinned (OpenSpec.ofChange fnExactIsStackSortedWrong)

/-- 'laws.FnExactHasLongRun': WHATEVER THE INPUT: true; the input reads as it did. -/
def fnExactHasLongRunSpec : ChangeSpec := { name := "fnExactHasLongRun", fn := fun _ => fun
  | [d1, d2, d3] => { results := [.lit (.bool true)], args := [d1, d2, d3] }
  | _ => none }
def fnExactHasLongRunRow : OpenClaim := { program := "ytliabbhfagfagaa", sum := "b3d99eaa32457d7a60e55f3074dd4a440cfd0a0e656afed44ababcdaa9be7bd9", func := "loop.example/g03101/laws.FnExactHasLongRun", spec := "fnExactHasLongRun", plainKeys := false, apart := false }
def FnExactHasLongRunSaid : Prop := fnExactHasLongRunRow.holds Try.pinned (OpenSpec.ofChange fnExactHasLongRunSpec)

/-- ITS FALSE NEIGHBOUR: 'it returns false'. Refute it at one input. -/
def fnExactHasLongRunWrong : ChangeSpec := { name := "fnExactHasLongRun", fn := fun _ => fun
  | [d1, d2, d3] => { results := [.lit (.bool false)], args := [d1, d2, d3] }
  | _ => none }
def FnExactHasLongRunWrongFalsely : Prop := fnExactHasLongRunRow.holds Try.pinned (OpenSpec.ofChange fnExactHasLongRunWrong)

/-- 'laws.FnExactLongestDown': WHATEVER THE INPUT: true; the input reads as it did. -/
def fnExactLongestDownSpec : ChangeSpec := { name := "fnExactLongestDown", fn := fun _ => fun
  | [d] => { results := [.lit (.bool true)], args := [d] }
  | _ => none }
def fnExactLongestDownRow : OpenClaim := { program := "ytliabbhfagfagaa", sum := "b3d99eaa32457d7a60e55f3074dd4a440cfd0a0e656afed44ababcdaa9be7bd9", func := "loop.example/g03101/laws.FnExactLongestDown", spec := "fnExactLongestDown", plainKeys := false, apart := false }
def FnExactLongestDownSaid : Prop := fnExactLongestDownRow.holds Try.pinned (OpenSpec.ofChange fnExactLongestDownSpec)

/-- ITS FALSE NEIGHBOUR: 'it returns false'. Refute it at one input. -/
def fnExactLongestDownWrong : ChangeSpec := { name := "fnExactLongestDown", fn := fun _ => fun
  | [d] => { results := [.lit (.bool false)], args := [d] }
  | _ => none }
def FnExactLongestDownWrongFalsely : Prop := fnExactLongestDownRow.holds Try.pinned (OpenSpec.ofChange fnExactLongestDownWrong)

/-- 'laws.FnExactUpUnion': WHATEVER THE INPUT: true; the input reads as it did. -/
def fnExactUpUnionSpec : ChangeSpec := { name := "fnExactUpUnion", fn := fun _ => fun
  | [d1, d2] => { results := [.lit (.bool true)], args := [d1, d2] }
  | _ => none }
def fnExactUpUnionRow : OpenClaim := { program := "ytliabbhfagfagaa", sum := "b3d99eaa32457d7a60e55f3074dd4a440cfd0a0e656afed44ababcdaa9be7bd9", func := "loop.example/g03101/laws.FnExactUpUnion", spec := "fnExactUpUnion", unfollowed := true, recurses := true, plainKeys := false, apart := false }
def FnExactUpUnionSaid : Prop := fnExactUpUnionRow.holds Try.pinned (OpenSpec.ofChange fnExactUpUnionSpec)

/-- ITS FALSE NEIGHBOUR: 'it returns false'. Refute it at one input. -/
def fnExactUpUnionWrong : ChangeSpec := { name := "fnExactUpUnion", fn := fun _ => fun
  | [d1, d2] => { results := [.lit (.bool false)], args := [d1, d2] }
  | _ => none }
def FnExactUpUnionWrongFalsely : Prop := fnExactUpUnionRow.holds Try.pinned (OpenSpec.ofChange fnExactUpUnionWrong)

/-- 'laws.FnExactStackTimes': WHATEVER THE INPUT: true; the input reads as it did. -/
def fnExactStackTimesSpec : ChangeSpec := { name := "fnExactStackTimes", fn := fun _ => fun
  | [d] => { results := [.lit (.bool true)], args := [d] }
  | _ => none }
def fnExactStackTimesRow : OpenClaim := { program := "ytliabbhfagfagaa", sum := "b3d99eaa32457d7a60e55f3074dd4a440cfd0a0e656afed44ababcdaa9be7bd9", func := "loop.example/g03101/laws.FnExactStackTimes", spec := "fnExactStackTimes", unfollowed := true, recurses := true, plainKeys := false, apart := false }
def FnExactStackTimesSaid : Prop := fnExactStackTimesRow.holds Try.pinned (OpenSpec.ofChange fnExactStackTimesSpec)

/-- ITS FALSE NEIGHBOUR: 'it returns false'. Refute it at one input. -/
def fnExactStackTimesWrong : ChangeSpec := { name := "fnExactStackTimes", fn := fun _ => fun
  | [d] => { results := [.lit (.bool false)], args := [d] }
  | _ => none }
def FnExactStackTimesWrongFalsely : Prop := fnExactStackTimesRow.holds Try.pinned (OpenSpec.ofChange fnExactStackTimesWrong)

/-- 'laws.FnExactCountLongestUp': WHATEVER THE INPUT: true; the input reads as it did. -/
def fnExactCountLongestUpSpec : ChangeSpec := { name := "fnExactCountLongestUp", fn := fun _ => fun
  | [d] => { results := [.lit (.bool true)], args := [d] }
  | _ => none }
def fnExactCountLongestUpRow : OpenClaim := { program := "ytliabbhfagfagaa", sum := "b3d99eaa32457d7a60e55f3074dd4a440cfd0a0e656afed44ababcdaa9be7bd9", func := "loop.example/g03101/laws.FnExactCountLongestUp", spec := "fnExactCountLongestUp", recurses := true, plainKeys := false, apart := false }
def FnExactCountLongestUpSaid : Prop := fnExactCountLongestUpRow.holds Try.pinned (OpenSpec.ofChange fnExactCountLongestUpSpec)

/-- ITS FALSE NEIGHBOUR: 'it returns false'. Refute it at one input. -/
def fnExactCountLongestUpWrong : ChangeSpec := { name := "fnExactCountLongestUp", fn := fun _ => fun
  | [d] => { results := [.lit (.bool false)], args := [d] }
  | _ => none }
def FnExactCountLongestUpWrongFalsely : Prop := fnExactCountLongestUpRow.holds Try.pinned (OpenSpec.ofChange fnExactCountLongestUpWrong)

/-- 'laws.FnExactFirstLongestUp': WHATEVER THE INPUT: true; the input reads as it did. -/
def fnExactFirstLongestUpSpec : ChangeSpec := { name := "fnExactFirstLongestUp", fn := fun _ => fun
  | [d] => { results := [.lit (.bool true)], args := [d] }
  | _ => none }
def fnExactFirstLongestUpRow : OpenClaim := { program := "ytliabbhfagfagaa", sum := "b3d99eaa32457d7a60e55f3074dd4a440cfd0a0e656afed44ababcdaa9be7bd9", func := "loop.example/g03101/laws.FnExactFirstLongestUp", spec := "fnExactFirstLongestUp", recurses := true, plainKeys := false, apart := false }
def FnExactFirstLongestUpSaid : Prop := fnExactFirstLongestUpRow.holds Try.pinned (OpenSpec.ofChange fnExactFirstLongestUpSpec)

/-- ITS FALSE NEIGHBOUR: 'it returns false'. Refute it at one input. -/
def fnExactFirstLongestUpWrong : ChangeSpec := { name := "fnExactFirstLongestUp", fn := fun _ => fun
  | [d] => { results := [.lit (.bool false)], args := [d] }
  | _ => none }
def FnExactFirstLongestUpWrongFalsely : Prop := fnExactFirstLongestUpRow.holds Try.pinned (OpenSpec.ofChange fnExactFirstLongestUpWrong)

/-- 'laws.FnExactCountTwoPasses': WHATEVER THE INPUT: true; the input reads as it did. -/
def fnExactCountTwoPassesSpec : ChangeSpec := { name := "fnExactCountTwoPasses", fn := fun _ => fun
  | [d] => { results := [.lit (.bool true)], args := [d] }
  | _ => none }
def fnExactCountTwoPassesRow : OpenClaim := { program := "ytliabbhfagfagaa", sum := "b3d99eaa32457d7a60e55f3074dd4a440cfd0a0e656afed44ababcdaa9be7bd9", func := "loop.example/g03101/laws.FnExactCountTwoPasses", spec := "fnExactCountTwoPasses", unfollowed := true, recurses := true, plainKeys := false, apart := false }
def FnExactCountTwoPassesSaid : Prop := fnExactCountTwoPassesRow.holds Try.pinned (OpenSpec.ofChange fnExactCountTwoPassesSpec)

/-- ITS FALSE NEIGHBOUR: 'it returns false'. Refute it at one input. -/
def fnExactCountTwoPassesWrong : ChangeSpec := { name := "fnExactCountTwoPasses", fn := fun _ => fun
  | [d] => { results := [.lit (.bool false)], args := [d] }
  | _ => none }
def FnExactCountTwoPassesWrongFalsely : Prop := fnExactCountTwoPassesRow.holds Try.pinned (OpenSpec.ofChange fnExactCountTwoPassesWrong)

/-- 'laws.FnExactIsTwicePattern': WHATEVER THE INPUT: true; the input reads as it did. -/
def fnExactIsTwicePatternSpec : ChangeSpec := { name := "fnExactIsTwicePattern", fn := fun _ => fun
  | [d] => { results := [.lit (.bool true)], args := [d] }
  | _ => none }
def fnExactIsTwicePatternRow : OpenClaim := { program := "ytliabbhfagfagaa", sum := "b3d99eaa32457d7a60e55f3074dd4a440cfd0a0e656afed44ababcdaa9be7bd9", func := "loop.example/g03101/laws.FnExactIsTwicePattern", spec := "fnExactIsTwicePattern", recurses := true, plainKeys := false, apart := false }
def FnExactIsTwicePatternSaid : Prop := fnExactIsTwicePatternRow.holds Try.pinned (OpenSpec.ofChange fnExactIsTwicePatternSpec)

/-- ITS FALSE NEIGHBOUR: 'it returns false'. Refute it at one input. -/
def fnExactIsTwicePatternWrong : ChangeSpec := { name := "fnExactIsTwicePattern", fn := fun _ => fun
  | [d] => { results := [.lit (.bool false)], args := [d] }
  | _ => none }
def FnExactIsTwicePatternWrongFalsely : Prop := fnExactIsTwicePatternRow.holds Try.pinned (OpenSpec.ofChange fnExactIsTwicePatternWrong)

/-- 'laws.FnExactStackSources': WHATEVER THE INPUT: true; the input reads as it did. -/
def fnExactStackSourcesSpec : ChangeSpec := { name := "fnExactStackSources", fn := fun _ => fun
  | [d] => { results := [.lit (.bool true)], args := [d] }
  | _ => none }
def fnExactStackSourcesRow : OpenClaim := { program := "ytliabbhfagfagaa", sum := "b3d99eaa32457d7a60e55f3074dd4a440cfd0a0e656afed44ababcdaa9be7bd9", func := "loop.example/g03101/laws.FnExactStackSources", spec := "fnExactStackSources", recurses := true, plainKeys := false, apart := false }
def FnExactStackSourcesSaid : Prop := fnExactStackSourcesRow.holds Try.pinned (OpenSpec.ofChange fnExactStackSourcesSpec)

/-- ITS FALSE NEIGHBOUR: 'it returns false'. Refute it at one input. -/
def fnExactStackSourcesWrong : ChangeSpec := { name := "fnExactStackSources", fn := fun _ => fun
  | [d] => { results := [.lit (.bool false)], args := [d] }
  | _ => none }
def FnExactStackSourcesWrongFalsely : Prop := fnExactStackSourcesRow.holds Try.pinned (OpenSpec.ofChange fnExactStackSourcesWrong)

/- THE SECOND FORM. 'bulk': how many values and letters a reading holds, each counted each time it is reached (what is shared counts as often as it is met; a slice's spare places count too). A statement '..UptoSaid' is the law's where the arguments, and the package variables that the reading takes, are together of bulk at most 1048576: NARROWER than '..Said'. Prove '..Said' where nothing that the law and all that it calls make is longer than what came in: it says more and counts as full. Else prove '..UptoSaid'. A law counts once. -/
mutual
def uptoBulk {H : Type} : DataW H → Nat
  | .lit (.string bytes) => bytes.length + 1
  | .lit _ => 1
  | .nil => 1
  | .ptr d => uptoBulk d + 1
  | .slice elems spare => uptoBulkAll elems + uptoBulkAll spare + 1
  | .agg parts => uptoBulkAll parts + 1
  | .iface _ d => uptoBulk d + 1
  | .map entries => uptoBulkEntries entries + 1
  | .held _ => 1
def uptoBulkAll {H : Type} : List (DataW H) → Nat
  | [] => 0
  | d :: r => uptoBulk d + uptoBulkAll r
def uptoBulkEntries {H : Type} : List (Lit × DataW H) → Nat
  | [] => 0
  | x :: r => uptoBulkEntry x + uptoBulkEntries r
def uptoBulkEntry {H : Type} : Lit × DataW H → Nat
  | (.string bytes, d) => bytes.length + uptoBulk d + 1
  | (_, d) => uptoBulk d + 1
 end
def uptoSmall : (H : Type) → List (DataW H) → Bool := fun _ ds => decide (uptoBulkAll ds ≤ 1048576)
def OpenSpec.upto (s : _root_.Go.ChangeSpec) : _root_.Go.OpenSpec := { _root_.Go.OpenSpec.ofChange s with cond := some uptoSmall }

/-- 'laws.FnExactLongestUp', WHERE WHAT IT READS IS OF BULK AT MOST 1048576: true; the input reads as it did. -/
def fnExactLongestUpUptoRow : OpenClaim := { program := "ytliabbhfagfagaa", sum := "b3d99eaa32457d7a60e55f3074dd4a440cfd0a0e656afed44ababcdaa9be7bd9", func := "loop.example/g03101/laws.FnExactLongestUp", spec := "fnExactLongestUp", plainKeys := false, apart := false, narrowed := true }
def FnExactLongestUpUptoSaid : Prop := fnExactLongestUpUptoRow.holds Try.pinned (OpenSpec.upto fnExactLongestUpSpec)

/-- 'laws.FnExactStackPass', WHERE WHAT IT READS IS OF BULK AT MOST 1048576: true; the input reads as it did. -/
def fnExactStackPassUptoRow : OpenClaim := { program := "ytliabbhfagfagaa", sum := "b3d99eaa32457d7a60e55f3074dd4a440cfd0a0e656afed44ababcdaa9be7bd9", func := "loop.example/g03101/laws.FnExactStackPass", spec := "fnExactStackPass", plainKeys := false, apart := false, narrowed := true }
def FnExactStackPassUptoSaid : Prop := fnExactStackPassUptoRow.holds Try.pinned (OpenSpec.upto fnExactStackPassSpec)

/-- 'laws.FnExactIsStackSorted', WHERE WHAT IT READS IS OF BULK AT MOST 1048576: true; the input reads as it did. -/
def fnExactIsStackSortedUptoRow : OpenClaim := { program := "ytliabbhfagfagaa", sum := "b3d99eaa32457d7a60e55f3074dd4a440cfd0a0e656afed44ababcdaa9be7bd9", func := "loop.example/g03101/laws.FnExactIsStackSorted", spec := "fnExactIsStackSorted", plainKeys := false, apart := false, narrowed := true }
def FnExactIsStackSortedUptoSaid : Prop := fnExactIsStackSortedUptoRow.holds Try.pinned (OpenSpec.upto fnExactIsStackSortedSpec)

/-- 'laws.FnExactHasLongRun', WHERE WHAT IT READS IS OF BULK AT MOST 1048576: true; the input reads as it did. -/
def fnExactHasLongRunUptoRow : OpenClaim := { program := "ytliabbhfagfagaa", sum := "b3d99eaa32457d7a60e55f3074dd4a440cfd0a0e656afed44ababcdaa9be7bd9", func := "loop.example/g03101/laws.FnExactHasLongRun", spec := "fnExactHasLongRun", plainKeys := false, apart := false, narrowed := true }
def FnExactHasLongRunUptoSaid : Prop := fnExactHasLongRunUptoRow.holds Try.pinned (OpenSpec.upto fnExactHasLongRunSpec)

/-- 'laws.FnExactLongestDown', WHERE WHAT IT READS IS OF BULK AT MOST 1048576: true; the input reads as it did. -/
def fnExactLongestDownUptoRow : OpenClaim := { program := "ytliabbhfagfagaa", sum := "b3d99eaa32457d7a60e55f3074dd4a440cfd0a0e656afed44ababcdaa9be7bd9", func := "loop.example/g03101/laws.FnExactLongestDown", spec := "fnExactLongestDown", plainKeys := false, apart := false, narrowed := true }
def FnExactLongestDownUptoSaid : Prop := fnExactLongestDownUptoRow.holds Try.pinned (OpenSpec.upto fnExactLongestDownSpec)

/-- 'laws.FnExactUpUnion', WHERE WHAT IT READS IS OF BULK AT MOST 1048576: true; the input reads as it did. -/
def fnExactUpUnionUptoRow : OpenClaim := { program := "ytliabbhfagfagaa", sum := "b3d99eaa32457d7a60e55f3074dd4a440cfd0a0e656afed44ababcdaa9be7bd9", func := "loop.example/g03101/laws.FnExactUpUnion", spec := "fnExactUpUnion", unfollowed := true, recurses := true, plainKeys := false, apart := false, narrowed := true }
def FnExactUpUnionUptoSaid : Prop := fnExactUpUnionUptoRow.holds Try.pinned (OpenSpec.upto fnExactUpUnionSpec)

/-- 'laws.FnExactStackTimes', WHERE WHAT IT READS IS OF BULK AT MOST 1048576: true; the input reads as it did. -/
def fnExactStackTimesUptoRow : OpenClaim := { program := "ytliabbhfagfagaa", sum := "b3d99eaa32457d7a60e55f3074dd4a440cfd0a0e656afed44ababcdaa9be7bd9", func := "loop.example/g03101/laws.FnExactStackTimes", spec := "fnExactStackTimes", unfollowed := true, recurses := true, plainKeys := false, apart := false, narrowed := true }
def FnExactStackTimesUptoSaid : Prop := fnExactStackTimesUptoRow.holds Try.pinned (OpenSpec.upto fnExactStackTimesSpec)

/-- 'laws.FnExactCountLongestUp', WHERE WHAT IT READS IS OF BULK AT MOST 1048576: true; the input reads as it did. -/
def fnExactCountLongestUpUptoRow : OpenClaim := { program := "ytliabbhfagfagaa", sum := "b3d99eaa32457d7a60e55f3074dd4a440cfd0a0e656afed44ababcdaa9be7bd9", func := "loop.example/g03101/laws.FnExactCountLongestUp", spec := "fnExactCountLongestUp", recurses := true, plainKeys := false, apart := false, narrowed := true }
def FnExactCountLongestUpUptoSaid : Prop := fnExactCountLongestUpUptoRow.holds Try.pinned (OpenSpec.upto fnExactCountLongestUpSpec)

/-- 'laws.FnExactFirstLongestUp', WHERE WHAT IT READS IS OF BULK AT MOST 1048576: true; the input reads as it did. -/
def fnExactFirstLongestUpUptoRow : OpenClaim := { program := "ytliabbhfagfagaa", sum := "b3d99eaa32457d7a60e55f3074dd4a440cfd0a0e656afed44ababcdaa9be7bd9", func := "loop.example/g03101/laws.FnExactFirstLongestUp", spec := "fnExactFirstLongestUp", recurses := true, plainKeys := false, apart := false, narrowed := true }
def FnExactFirstLongestUpUptoSaid : Prop := fnExactFirstLongestUpUptoRow.holds Try.pinned (OpenSpec.upto fnExactFirstLongestUpSpec)

/-- 'laws.FnExactCountTwoPasses', WHERE WHAT IT READS IS OF BULK AT MOST 1048576: true; the input reads as it did. -/
def fnExactCountTwoPassesUptoRow : OpenClaim := { program := "ytliabbhfagfagaa", sum := "b3d99eaa32457d7a60e55f3074dd4a440cfd0a0e656afed44ababcdaa9be7bd9", func := "loop.example/g03101/laws.FnExactCountTwoPasses", spec := "fnExactCountTwoPasses", unfollowed := true, recurses := true, plainKeys := false, apart := false, narrowed := true }
def FnExactCountTwoPassesUptoSaid : Prop := fnExactCountTwoPassesUptoRow.holds Try.pinned (OpenSpec.upto fnExactCountTwoPassesSpec)

/-- 'laws.FnExactIsTwicePattern', WHERE WHAT IT READS IS OF BULK AT MOST 1048576: true; the input reads as it did. -/
def fnExactIsTwicePatternUptoRow : OpenClaim := { program := "ytliabbhfagfagaa", sum := "b3d99eaa32457d7a60e55f3074dd4a440cfd0a0e656afed44ababcdaa9be7bd9", func := "loop.example/g03101/laws.FnExactIsTwicePattern", spec := "fnExactIsTwicePattern", recurses := true, plainKeys := false, apart := false, narrowed := true }
def FnExactIsTwicePatternUptoSaid : Prop := fnExactIsTwicePatternUptoRow.holds Try.pinned (OpenSpec.upto fnExactIsTwicePatternSpec)

/-- 'laws.FnExactStackSources', WHERE WHAT IT READS IS OF BULK AT MOST 1048576: true; the input reads as it did. -/
def fnExactStackSourcesUptoRow : OpenClaim := { program := "ytliabbhfagfagaa", sum := "b3d99eaa32457d7a60e55f3074dd4a440cfd0a0e656afed44ababcdaa9be7bd9", func := "loop.example/g03101/laws.FnExactStackSources", spec := "fnExactStackSources", recurses := true, plainKeys := false, apart := false, narrowed := true }
def FnExactStackSourcesUptoSaid : Prop := fnExactStackSourcesUptoRow.holds Try.pinned (OpenSpec.upto fnExactStackSourcesSpec)

end Rows
end Go.Proofs.Ytliabbhfagfagaa
