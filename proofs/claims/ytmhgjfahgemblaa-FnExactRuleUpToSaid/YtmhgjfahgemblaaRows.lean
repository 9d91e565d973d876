/-
  No cell of these rows narrows 'for every input' (looked for: loops, veiled, ifaces, maps, wideKeys, modest, calm, conditions, laid).
  DERIVED. THE GIVEN ROWS OF THIS SEAT. 4 by the template 'for every input the law returns true; each argument reads behind the call as it read before'; 0 by the template 'total and deterministic' (their statements: YtmhgjfahgemblaaTotals.lean).
  GIVEN WITH THE SEED: the statements are not yours to turn. If you find one false, say at which input.
  Laid BY PROGRAM, IN A SANDBOX (cutbox-rows.mjs): the forced cells as the released guide's own fill.sh prints them over the translation 105093be16d09d82… (all of the seat's roots in one cut). By AI agents, Wed Nov 11 2026. No macro, syntax, notation, axiom, sorry.
-/
import Derived.Test.YtmhgjfahgemblaaChecked
import GoSem.Claim
import GoSem.ClaimJoined
import GoSem.ClaimMapViews
import Derived.JoinedTies
import Derived.KernelRfl
namespace Go.Proofs.Ytmhgjfahgemblaa
/- THE CELL 'sum', in the pinned program and in every row, IS THE sha256 OF THE DUMP (.gsa) THAT YtmhgjfahgemblaaProg.lean LOADS. Nothing in Lean hashes anything: it is a label: what it is worth is what the hold of that sum in a sandbox is worth. -/
noncomputable def Try.pinned : Pinned := { name := "ytmhgjfahgemblaa", sum := "105093be16d09d8213235833fac1531bfae485090b18779c606287341cb72072", checked := Try.checked }
namespace Rows
def none {H : Type} : Left H := { results := [], args := [] }

/-- 'laws.FnExactUpUnion': WHATEVER THE INPUT: true; the input reads as it did. -/
def fnExactUpUnionSpec : ChangeSpec := { name := "fnExactUpUnion", fn := fun _ => fun
  | [d1, d2] => { results := [.lit (.bool true)], args := [d1, d2] }
  | _ => none }
def fnExactUpUnionRow : OpenClaim := { program := "ytmhgjfahgemblaa", sum := "105093be16d09d8213235833fac1531bfae485090b18779c606287341cb72072", func := "loop.example/g03101/laws.FnExactUpUnion", spec := "fnExactUpUnion", unfollowed := true, recurses := true, plainKeys := false, apart := false }
def FnExactUpUnionSaid : Prop := fnExactUpUnionRow.holds Try.pinned (OpenSpec.ofChange fnExactUpUnionSpec)

/-- ITS FALSE NEIGHBOUR: 'it returns false'. Refute it at one input. -/
def fnExactUpUnionWrong : ChangeSpec := { name := "fnExactUpUnion", fn := fun _ => fun
  | [d1, d2] => { results := [.lit (.bool false)], args := [d1, d2] }
  | _ => none }
def FnExactUpUnionWrongFalsely : Prop := fnExactUpUnionRow.holds Try.pinned (OpenSpec.ofChange fnExactUpUnionWrong)

/-- 'laws.FnExactIsTwicePattern': WHATEVER THE INPUT: true; the input reads as it did. -/
def fnExactIsTwicePatternSpec : ChangeSpec := { name := "fnExactIsTwicePattern", fn := fun _ => fun
  | [d] => { results := [.lit (.bool true)], args := [d] }
  | _ => none }
def fnExactIsTwicePatternRow : OpenClaim := { program := "ytmhgjfahgemblaa", sum := "105093be16d09d8213235833fac1531bfae485090b18779c606287341cb72072", func := "loop.example/g03101/laws.FnExactIsTwicePattern", spec := "fnExactIsTwicePattern", recurses := true, plainKeys := false, apart := false }
def FnExactIsTwicePatternSaid : Prop := fnExactIsTwicePatternRow.holds Try.pinned (OpenSpec.ofChange fnExactIsTwicePatternSpec)

/-- ITS FALSE NEIGHBOUR: 'it returns false'. Refute it at one input. -/
def fnExactIsTwicePatternWrong : ChangeSpec := { name := "fnExactIsTwicePattern", fn := fun _ => fun
  | [d] => { results := [.lit (.bool false)], args := [d] }
  | _ => none }
def FnExactIsTwicePatternWrongFalsely : Prop := fnExactIsTwicePatternRow.holds Try.pinned (OpenSpec.ofChange fnExactIsTwicePatternWrong)

/-- 'laws.FnExactWilfGroups': WHATEVER THE INPUT: true; the input reads as it did. -/
def fnExactWilfGroupsSpec : ChangeSpec := { name := "fnExactWilfGroups", fn := fun _ => fun
  | [d1, d2] => { results := [.lit (.bool true)], args := [d1, d2] }
  | _ => none }
def fnExactWilfGroupsRow : OpenClaim := { program := "ytmhgjfahgemblaa", sum := "105093be16d09d8213235833fac1531bfae485090b18779c606287341cb72072", func := "loop.example/g03101/laws.FnExactWilfGroups", spec := "fnExactWilfGroups", unfollowed := true, recurses := true, plainKeys := false, apart := false }
def FnExactWilfGroupsSaid : Prop := fnExactWilfGroupsRow.holds Try.pinned (OpenSpec.ofChange fnExactWilfGroupsSpec)

/-- ITS FALSE NEIGHBOUR: 'it returns false'. Refute it at one input. -/
def fnExactWilfGroupsWrong : ChangeSpec := { name := "fnExactWilfGroups", fn := fun _ => fun
  | [d1, d2] => { results := [.lit (.bool false)], args := [d1, d2] }
  | _ => none }
def FnExactWilfGroupsWrongFalsely : Prop := fnExactWilfGroupsRow.holds Try.pinned (OpenSpec.ofChange fnExactWilfGroupsWrong)

/-- 'laws.FnExactRuleUpTo': WHATEVER THE INPUT: true; the input reads as it did. -/
def fnExactRuleUpToSpec : ChangeSpec := { name := "fnExactRuleUpTo", fn := fun _ => fun
  | [d1, d2] => { results := [.lit (.bool true)], args := [d1, d2] }
  | _ => none }
def fnExactRuleUpToRow : OpenClaim := { program := "ytmhgjfahgemblaa", sum := "105093be16d09d8213235833fac1531bfae485090b18779c606287341cb72072", func := "loop.example/g03101/laws.FnExactRuleUpTo", spec := "fnExactRuleUpTo", inPlace := ["slices.overlaps[int]"], unfollowed := true, recurses := true, plainKeys := false, apart := false }
def FnExactRuleUpToSaid : Prop := fnExactRuleUpToRow.holds Try.pinned (OpenSpec.ofChange fnExactRuleUpToSpec)

/-- ITS FALSE NEIGHBOUR: 'it returns false'. Refute it at one input. -/
def fnExactRuleUpToWrong : ChangeSpec := { name := "fnExactRuleUpTo", fn := fun _ => fun
  | [d1, d2] => { results := [.lit (.bool false)], args := [d1, d2] }
  | _ => none }
def FnExactRuleUpToWrongFalsely : Prop := fnExactRuleUpToRow.holds Try.pinned (OpenSpec.ofChange fnExactRuleUpToWrong)

/- THE SECOND FORM. 'bulk': how many values and letters a reading holds, each counted each time it is reached (what is shared counts as often as it is met; a slice's spare places count too). A statement '..UptoSaid' is the law's where the arguments, and the package variables that the reading takes, are together of bulk at most 1048576: NARROWER than '..Said'. Prove '..Said' where nothing that the law and all that it calls make is longer than what came in: it says more and counts as full. Else prove '..UptoSaid'. A law counts once. -/
mutual
def uptoBulk {H : Type} : DataW H → Nat
  | .lit (.string bytes) => bytes.length + 1
  | .lit _ => 1
  | .nil => 1
  | .ptr d => uptoBulk d + 1
  | .slice elems spare => uptoBulkAll elems + uptoBulkAll spare + 1
  | .agg parts => uptoBulkAll parts + 1
  | .iface _ d => uptoBulk d + 1
  | .map entries => uptoBulkEntries entries + 1
  | .held _ => 1
def uptoBulkAll {H : Type} : List (DataW H) → Nat
  | [] => 0
  | d :: r => uptoBulk d + uptoBulkAll r
def uptoBulkEntries {H : Type} : List (Lit × DataW H) → Nat
  | [] => 0
  | x :: r => uptoBulkEntry x + uptoBulkEntries r
def uptoBulkEntry {H : Type} : Lit × DataW H → Nat
  | (.string bytes, d) => bytes.length + uptoBulk d + 1
  | (_, d) => uptoBulk d + 1
 end
def uptoSmall : (H : Type) → List (DataW H) → Bool := fun _ ds => decide (uptoBulkAll ds ≤ 1048576)
def OpenSpec.upto (s : _root_.Go.ChangeSpec) : _root_.Go.OpenSpec := { _root_.Go.OpenSpec.ofChange s with cond := some uptoSmall }

/-- 'laws.FnExactUpUnion', WHERE WHAT IT READS IS OF BULK AT MOST 1048576: true; the input reads as it did. -/
def fnExactUpUnionUptoRow : OpenClaim := { program := "ytmhgjfahgemblaa", sum := "105093be16d09d8213235833fac1531bfae485090b18779c606287341cb72072", func := "loop.example/g03101/laws.FnExactUpUnion", spec := "fnExactUpUnion", unfollowed := true, recurses := true, plainKeys := false, apart := false, narrowed := true }
def FnExactUpUnionUptoSaid : Prop := fnExactUpUnionUptoRow.holds Try.pinned (OpenSpec.upto fnExactUpUnionSpec)

/-- 'laws.FnExactIsTwicePattern', WHERE WHAT IT READS IS OF BULK AT MOST 1048576: true; the input reads as it did. -/
def fnExactIsTwicePatternUptoRow : OpenClaim := { program := "ytmhgjfahgemblaa", sum := "105093be16d09d8213235833fac1531bfae485090b18779c606287341cb72072", func := "loop.example/g03101/laws.FnExactIsTwicePattern", spec := "fnExactIsTwicePattern", recurses := true, plainKeys := false, apart := false, narrowed := true }
def FnExactIsTwicePatternUptoSaid : Prop := fnExactIsTwicePatternUptoRow.holds Try.pinned (OpenSpec.upto fnExactIsTwicePatternSpec)

/-- 'laws.FnExactWilfGroups', WHERE WHAT IT READS IS OF BULK AT MOST 1048576: true; the input reads as it did. -/
def fnExactWilfGroupsUptoRow : OpenClaim := { program := "ytmhgjfahgemblaa", sum := "105093be16d09d8213235833fac1531bfae485090b18779c606287341cb72072", func := "loop.example/g03101/laws.FnExactWilfGroups", spec := "fnExactWilfGroups", unfollowed := true, recurses := true, plainKeys := false, apart := false, narrowed := true }
def FnExactWilfGroupsUptoSaid : Prop := fnExactWilfGroupsUptoRow.holds Try.pinned (OpenSpec.upto fnExactWilfGroupsSpec)

/-- 'laws.FnExactRuleUpTo', WHERE WHAT IT READS IS OF BULK AT MOST 1048576: true; the input reads as it did. -/
def fnExactRuleUpToUptoRow : OpenClaim := { program := "ytmhgjfahgemblaa", sum := "105093be16d09d8213235833fac1531bfae485090b18779c606287341cb72072", func := "loop.example/g03101/laws.FnExactRuleUpTo", spec := "fnExactRuleUpTo", inPlace := ["slices.overlaps[int]"], unfollowed := true, recurses := true, plainKeys := false, apart := false, narrowed := true }
def FnExactRuleUpToUptoSaid : Prop := fnExactRuleUpToUptoRow.holds Try.pinned (OpenSpec.upto fnExactRuleUpToSpec)

end Rows
end Go.Proofs.Ytmhgjfahgemblaa
