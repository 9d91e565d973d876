/-
  No cell of these rows narrows 'for every input' (looked for: loops, veiled, ifaces, maps, wideKeys, modest, calm, conditions, laid).
  DERIVED. THE GIVEN ROWS OF THIS SEAT. 11 by the template 'for every input the law returns true; each argument reads behind the call as it read before'; 0 by the template 'total and deterministic' (their statements: YtfainpmcdfckkaaTotals.lean).
  GIVEN WITH THE SEED: the statements are not yours to turn. If you find one false, say at which input.
  Laid BY PROGRAM, IN A SANDBOX (cutbox-rows.mjs): the forced cells as the released guide's own fill.sh prints them over the translation 03367df88c4a457c… (all of the seat's roots in one cut). By AI agents, Wed Nov 11 2026. No macro, syntax, notation, axiom, sorry.
-/
import Derived.Test.YtfainpmcdfckkaaChecked
import GoSem.Claim
import GoSem.ClaimJoined
import GoSem.ClaimMapViews
import Derived.JoinedTies
import Derived.KernelRfl
namespace Go.Proofs.Ytfainpmcdfckkaa
/- THE CELL 'sum', in the pinned program and in every row, IS THE sha256 OF THE DUMP (.gsa) THAT YtfainpmcdfckkaaProg.lean LOADS. Nothing in Lean hashes anything: it is a label: what it is worth is what the hold of that sum in a sandbox is worth. -/
noncomputable def Try.pinned : Pinned := { name := "ytfainpmcdfckkaa", sum := "03367df88c4a457cfceda3ddf6a49574cb1f6cfd1f49469ef07f3791b5e800ac", checked := Try.checked }
namespace Rows
def none {H : Type} : Left H := { results := [], args := [] }

/-- 'laws.FnExactCountTableaux': WHATEVER THE INPUT: true; the input reads as it did. -/
def fnExactCountTableauxSpec : ChangeSpec := { name := "fnExactCountTableaux", fn := fun _ => fun
  | [d] => { results := [.lit (.bool true)], args := [d] }
  | _ => none }
def fnExactCountTableauxRow : OpenClaim := { program := "ytfainpmcdfckkaa", sum := "03367df88c4a457cfceda3ddf6a49574cb1f6cfd1f49469ef07f3791b5e800ac", func := "loop.example/g03101/laws.FnExactCountTableaux", spec := "fnExactCountTableaux", apart := false }
def FnExactCountTableauxSaid : Prop := fnExactCountTableauxRow.holds Try.pinned (OpenSpec.ofChange fnExactCountTableauxSpec)

/-- ITS FALSE NEIGHBOUR: 'it returns false'. Refute it at one input. -/
def fnExactCountTableauxWrong : ChangeSpec := { name := "fnExactCountTableaux", fn := fun _ => fun
  | [d] => { results := [.lit (.bool false)], args := [d] }
  | _ => none }
def FnExactCountTableauxWrongFalsely : Prop := fnExactCountTableauxRow.holds Try.pinned (OpenSpec.ofChange fnExactCountTableauxWrong)

/-- 'laws.FnExactPermOfPath': WHATEVER THE INPUT: true; the input reads as it did. -/
def fnExactPermOfPathSpec : ChangeSpec := { name := "fnExactPermOfPath", fn := fun _ => fun
  | [d] => { results := [.lit (.bool true)], args := [d] }
  | _ => none }
def fnExactPermOfPathRow : OpenClaim := { program := "ytfainpmcdfckkaa", sum := "03367df88c4a457cfceda3ddf6a49574cb1f6cfd1f49469ef07f3791b5e800ac", func := "loop.example/g03101/laws.FnExactPermOfPath", spec := "fnExactPermOfPath", apart := false }
def FnExactPermOfPathSaid : Prop := fnExactPermOfPathRow.holds Try.pinned (OpenSpec.ofChange fnExactPermOfPathSpec)

/-- ITS FALSE NEIGHBOUR: 'it returns false'. Refute it at one input. -/
def fnExactPermOfPathWrong : ChangeSpec := { name := "fnExactPermOfPath", fn := fun _ => fun
  | [d] => { results := [.lit (.bool false)], args := [d] }
  | _ => none }
def FnExactPermOfPathWrongFalsely : Prop := fnExactPermOfPathRow.holds Try.pinned (OpenSpec.ofChange fnExactPermOfPathWrong)

/-- 'laws.FnExactInsertPerm': WHATEVER THE INPUT: true; the input reads as it did. -/
def fnExactInsertPermSpec : ChangeSpec := { name := "fnExactInsertPerm", fn := fun _ => fun
  | [d] => { results := [.lit (.bool true)], args := [d] }
  | _ => none }
def fnExactInsertPermRow : OpenClaim := { program := "ytfainpmcdfckkaa", sum := "03367df88c4a457cfceda3ddf6a49574cb1f6cfd1f49469ef07f3791b5e800ac", func := "loop.example/g03101/laws.FnExactInsertPerm", spec := "fnExactInsertPerm", unfollowed := true, recurses := true, apart := false }
def FnExactInsertPermSaid : Prop := fnExactInsertPermRow.holds Try.pinned (OpenSpec.ofChange fnExactInsertPermSpec)

/-- ITS FALSE NEIGHBOUR: 'it returns false'. Refute it at one input. -/
def fnExactInsertPermWrong : ChangeSpec := { name := "fnExactInsertPerm", fn := fun _ => fun
  | [d] => { results := [.lit (.bool false)], args := [d] }
  | _ => none }
def FnExactInsertPermWrongFalsely : Prop := fnExactInsertPermRow.holds Try.pinned (OpenSpec.ofChange fnExactInsertPermWrong)

/-- 'laws.FnExactIsTableau': WHATEVER THE INPUT: true; the input reads as it did. -/
def fnExactIsTableauSpec : ChangeSpec := { name := "fnExactIsTableau", fn := fun _ => fun
  | [d] => { results := [.lit (.bool true)], args := [d] }
  | _ => none }
def fnExactIsTableauRow : OpenClaim := { program := "ytfainpmcdfckkaa", sum := "03367df88c4a457cfceda3ddf6a49574cb1f6cfd1f49469ef07f3791b5e800ac", func := "loop.example/g03101/laws.FnExactIsTableau", spec := "fnExactIsTableau", apart := false }
def FnExactIsTableauSaid : Prop := fnExactIsTableauRow.holds Try.pinned (OpenSpec.ofChange fnExactIsTableauSpec)

/-- ITS FALSE NEIGHBOUR: 'it returns false'. Refute it at one input. -/
def fnExactIsTableauWrong : ChangeSpec := { name := "fnExactIsTableau", fn := fun _ => fun
  | [d] => { results := [.lit (.bool false)], args := [d] }
  | _ => none }
def FnExactIsTableauWrongFalsely : Prop := fnExactIsTableauRow.holds Try.pinned (OpenSpec.ofChange fnExactIsTableauWrong)

/-- 'laws.FnExactCountPeaks': WHATEVER THE INPUT: true; the input reads as it did. -/
def fnExactCountPeaksSpec : ChangeSpec := { name := "fnExactCountPeaks", fn := fun _ => fun
  | [d] => { results := [.lit (.bool true)], args := [d] }
  | _ => none }
def fnExactCountPeaksRow : OpenClaim := { program := "ytfainpmcdfckkaa", sum := "03367df88c4a457cfceda3ddf6a49574cb1f6cfd1f49469ef07f3791b5e800ac", func := "loop.example/g03101/laws.FnExactCountPeaks", spec := "fnExactCountPeaks", inPlace := ["internal/bytealg.CountString", "internal/bytealg.IndexByteString", "internal/bytealg.IndexString"], named := ["internal/bytealg.MaxLen"], apart := false }
def FnExactCountPeaksSaid : Prop := fnExactCountPeaksRow.holds Try.pinned (OpenSpec.ofChange fnExactCountPeaksSpec)

/-- ITS FALSE NEIGHBOUR: 'it returns false'. Refute it at one input. -/
def fnExactCountPeaksWrong : ChangeSpec := { name := "fnExactCountPeaks", fn := fun _ => fun
  | [d] => { results := [.lit (.bool false)], args := [d] }
  | _ => none }
def FnExactCountPeaksWrongFalsely : Prop := fnExactCountPeaksRow.holds Try.pinned (OpenSpec.ofChange fnExactCountPeaksWrong)

/-- 'laws.FnExactTableauxOf': WHATEVER THE INPUT: true; the input reads as it did. -/
def fnExactTableauxOfSpec : ChangeSpec := { name := "fnExactTableauxOf", fn := fun _ => fun
  | [d] => { results := [.lit (.bool true)], args := [d] }
  | _ => none }
def fnExactTableauxOfRow : OpenClaim := { program := "ytfainpmcdfckkaa", sum := "03367df88c4a457cfceda3ddf6a49574cb1f6cfd1f49469ef07f3791b5e800ac", func := "loop.example/g03101/laws.FnExactTableauxOf", spec := "fnExactTableauxOf", recurses := true, apart := false }
def FnExactTableauxOfSaid : Prop := fnExactTableauxOfRow.holds Try.pinned (OpenSpec.ofChange fnExactTableauxOfSpec)

/-- ITS FALSE NEIGHBOUR: 'it returns false'. Refute it at one input. -/
def fnExactTableauxOfWrong : ChangeSpec := { name := "fnExactTableauxOf", fn := fun _ => fun
  | [d] => { results := [.lit (.bool false)], args := [d] }
  | _ => none }
def FnExactTableauxOfWrongFalsely : Prop := fnExactTableauxOfRow.holds Try.pinned (OpenSpec.ofChange fnExactTableauxOfWrong)

/-- 'laws.FnExactFormOf': WHATEVER THE INPUT: true; the input reads as it did. -/
def fnExactFormOfSpec : ChangeSpec := { name := "fnExactFormOf", fn := fun _ => fun
  | [d] => { results := [.lit (.bool true)], args := [d] }
  | _ => none }
def fnExactFormOfRow : OpenClaim := { program := "ytfainpmcdfckkaa", sum := "03367df88c4a457cfceda3ddf6a49574cb1f6cfd1f49469ef07f3791b5e800ac", func := "loop.example/g03101/laws.FnExactFormOf", spec := "fnExactFormOf", apart := false }
def FnExactFormOfSaid : Prop := fnExactFormOfRow.holds Try.pinned (OpenSpec.ofChange fnExactFormOfSpec)

/-- ITS FALSE NEIGHBOUR: 'it returns false'. Refute it at one input. -/
def fnExactFormOfWrong : ChangeSpec := { name := "fnExactFormOf", fn := fun _ => fun
  | [d] => { results := [.lit (.bool false)], args := [d] }
  | _ => none }
def FnExactFormOfWrongFalsely : Prop := fnExactFormOfRow.holds Try.pinned (OpenSpec.ofChange fnExactFormOfWrong)

/-- 'laws.FnExactTurnTableau': WHATEVER THE INPUT: true; the input reads as it did. -/
def fnExactTurnTableauSpec : ChangeSpec := { name := "fnExactTurnTableau", fn := fun _ => fun
  | [d] => { results := [.lit (.bool true)], args := [d] }
  | _ => none }
def fnExactTurnTableauRow : OpenClaim := { program := "ytfainpmcdfckkaa", sum := "03367df88c4a457cfceda3ddf6a49574cb1f6cfd1f49469ef07f3791b5e800ac", func := "loop.example/g03101/laws.FnExactTurnTableau", spec := "fnExactTurnTableau", apart := false }
def FnExactTurnTableauSaid : Prop := fnExactTurnTableauRow.holds Try.pinned (OpenSpec.ofChange fnExactTurnTableauSpec)

/-- ITS FALSE NEIGHBOUR: 'it returns false'. Refute it at one input. -/
def fnExactTurnTableauWrong : ChangeSpec := { name := "fnExactTurnTableau", fn := fun _ => fun
  | [d] => { results := [.lit (.bool false)], args := [d] }
  | _ => none }
def FnExactTurnTableauWrongFalsely : Prop := fnExactTurnTableauRow.holds Try.pinned (OpenSpec.ofChange fnExactTurnTableauWrong)

/-- 'laws.FnExactPathOf': WHATEVER THE INPUT: true; the input reads as it did. -/
def fnExactPathOfSpec : ChangeSpec := { name := "fnExactPathOf", fn := fun _ => fun
  | [d] => { results := [.lit (.bool true)], args := [d] }
  | _ => none }
def fnExactPathOfRow : OpenClaim := { program := "ytfainpmcdfckkaa", sum := "03367df88c4a457cfceda3ddf6a49574cb1f6cfd1f49469ef07f3791b5e800ac", func := "loop.example/g03101/laws.FnExactPathOf", spec := "fnExactPathOf", inPlace := ["internal/abi.NoEscape", "internal/bytealg.MakeNoZero"], recurses := true, apart := false }
def FnExactPathOfSaid : Prop := fnExactPathOfRow.holds Try.pinned (OpenSpec.ofChange fnExactPathOfSpec)

/-- ITS FALSE NEIGHBOUR: 'it returns false'. Refute it at one input. -/
def fnExactPathOfWrong : ChangeSpec := { name := "fnExactPathOf", fn := fun _ => fun
  | [d] => { results := [.lit (.bool false)], args := [d] }
  | _ => none }
def FnExactPathOfWrongFalsely : Prop := fnExactPathOfRow.holds Try.pinned (OpenSpec.ofChange fnExactPathOfWrong)

/-- 'laws.FnExactPermOfTableaux': WHATEVER THE INPUT: true; the input reads as it did. -/
def fnExactPermOfTableauxSpec : ChangeSpec := { name := "fnExactPermOfTableaux", fn := fun _ => fun
  | [d1, d2] => { results := [.lit (.bool true)], args := [d1, d2] }
  | _ => none }
def fnExactPermOfTableauxRow : OpenClaim := { program := "ytfainpmcdfckkaa", sum := "03367df88c4a457cfceda3ddf6a49574cb1f6cfd1f49469ef07f3791b5e800ac", func := "loop.example/g03101/laws.FnExactPermOfTableaux", spec := "fnExactPermOfTableaux", unfollowed := true, recurses := true, apart := false }
def FnExactPermOfTableauxSaid : Prop := fnExactPermOfTableauxRow.holds Try.pinned (OpenSpec.ofChange fnExactPermOfTableauxSpec)

/-- ITS FALSE NEIGHBOUR: 'it returns false'. Refute it at one input. -/
def fnExactPermOfTableauxWrong : ChangeSpec := { name := "fnExactPermOfTableaux", fn := fun _ => fun
  | [d1, d2] => { results := [.lit (.bool false)], args := [d1, d2] }
  | _ => none }
def FnExactPermOfTableauxWrongFalsely : Prop := fnExactPermOfTableauxRow.holds Try.pinned (OpenSpec.ofChange fnExactPermOfTableauxWrong)

/-- 'laws.FnExactPathsOf': WHATEVER THE INPUT: true; the input reads as it did. -/
def fnExactPathsOfSpec : ChangeSpec := { name := "fnExactPathsOf", fn := fun _ => fun
  | [d] => { results := [.lit (.bool true)], args := [d] }
  | _ => none }
def fnExactPathsOfRow : OpenClaim := { program := "ytfainpmcdfckkaa", sum := "03367df88c4a457cfceda3ddf6a49574cb1f6cfd1f49469ef07f3791b5e800ac", func := "loop.example/g03101/laws.FnExactPathsOf", spec := "fnExactPathsOf", inPlace := ["internal/bytealg.CountString", "internal/bytealg.IndexByteString", "internal/bytealg.IndexString"], recurses := true, named := ["internal/bytealg.MaxLen"], apart := false }
def FnExactPathsOfSaid : Prop := fnExactPathsOfRow.holds Try.pinned (OpenSpec.ofChange fnExactPathsOfSpec)

/-- ITS FALSE NEIGHBOUR: 'it returns false'. Refute it at one input. -/
def fnExactPathsOfWrong : ChangeSpec := { name := "fnExactPathsOf", fn := fun _ => fun
  | [d] => { results := [.lit (.bool false)], args := [d] }
  | _ => none }
def FnExactPathsOfWrongFalsely : Prop := fnExactPathsOfRow.holds Try.pinned (OpenSpec.ofChange fnExactPathsOfWrong)

/- THE SECOND FORM. 'bulk': how many values and letters a reading holds, each counted each time it is reached (what is shared counts as often as it is met; a slice's spare places count too). A statement '..UptoSaid' is the law's where the arguments, and the package variables that the reading takes, are together of bulk at most 1048576: NARROWER than '..Said'. Prove '..Said' where nothing that the law and all that it calls make is longer than what came in: it says more and counts as full. Else prove '..UptoSaid'. A law counts once. -/
mutual
def uptoBulk {H : Type} : DataW H → Nat
  | .lit (.string bytes) => bytes.length + 1
  | .lit _ => 1
  | .nil => 1
  | .ptr d => uptoBulk d + 1
  | .slice elems spare => uptoBulkAll elems + uptoBulkAll spare + 1
  | .agg parts => uptoBulkAll parts + 1
  | .iface _ d => uptoBulk d + 1
  | .map entries => uptoBulkEntries entries + 1
  | .held _ => 1
def uptoBulkAll {H : Type} : List (DataW H) → Nat
  | [] => 0
  | d :: r => uptoBulk d + uptoBulkAll r
def uptoBulkEntries {H : Type} : List (Lit × DataW H) → Nat
  | [] => 0
  | x :: r => uptoBulkEntry x + uptoBulkEntries r
def uptoBulkEntry {H : Type} : Lit × DataW H → Nat
  | (.string bytes, d) => bytes.length + uptoBulk d + 1
  | (_, d) => uptoBulk d + 1
 end
def uptoSmall : (H : Type) → List (DataW H) → Bool := fun _ ds => decide (uptoBulkAll ds ≤ 1048576)
def OpenSpec.upto (s : _root_.Go.ChangeSpec) : _root_.Go.OpenSpec := { _root_.Go.OpenSpec.ofChange s with cond := some uptoSmall }

/-- 'laws.FnExactCountTableaux', WHERE WHAT IT READS IS OF BULK AT MOST 1048576: true; the input reads as it did. -/
def fnExactCountTableauxUptoRow : OpenClaim := { program := "ytfainpmcdfckkaa", sum := "03367df88c4a457cfceda3ddf6a49574cb1f6cfd1f49469ef07f3791b5e800ac", func := "loop.example/g03101/laws.FnExactCountTableaux", spec := "fnExactCountTableaux", apart := false, narrowed := true }
def FnExactCountTableauxUptoSaid : Prop := fnExactCountTableauxUptoRow.holds Try.pinned (OpenSpec.upto fnExactCountTableauxSpec)

/-- 'laws.FnExactPermOfPath', WHERE WHAT IT READS IS OF BULK AT MOST 1048576: true; the input reads as it did. -/
def fnExactPermOfPathUptoRow : OpenClaim := { program := "ytfainpmcdfckkaa", sum := "03367df88c4a457cfceda3ddf6a49574cb1f6cfd1f49469ef07f3791b5e800ac", func := "loop.example/g03101/laws.FnExactPermOfPath", spec := "fnExactPermOfPath", apart := false, narrowed := true }
def FnExactPermOfPathUptoSaid : Prop := fnExactPermOfPathUptoRow.holds Try.pinned (OpenSpec.upto fnExactPermOfPathSpec)

/-- 'laws.FnExactInsertPerm', WHERE WHAT IT READS IS OF BULK AT MOST 1048576: true; the input reads as it did. -/
def fnExactInsertPermUptoRow : OpenClaim := { program := "ytfainpmcdfckkaa", sum := "03367df88c4a457cfceda3ddf6a49574cb1f6cfd1f49469ef07f3791b5e800ac", func := "loop.example/g03101/laws.FnExactInsertPerm", spec := "fnExactInsertPerm", unfollowed := true, recurses := true, apart := false, narrowed := true }
def FnExactInsertPermUptoSaid : Prop := fnExactInsertPermUptoRow.holds Try.pinned (OpenSpec.upto fnExactInsertPermSpec)

/-- 'laws.FnExactIsTableau', WHERE WHAT IT READS IS OF BULK AT MOST 1048576: true; the input reads as it did. -/
def fnExactIsTableauUptoRow : OpenClaim := { program := "ytfainpmcdfckkaa", sum := "03367df88c4a457cfceda3ddf6a49574cb1f6cfd1f49469ef07f3791b5e800ac", func := "loop.example/g03101/laws.FnExactIsTableau", spec := "fnExactIsTableau", apart := false, narrowed := true }
def FnExactIsTableauUptoSaid : Prop := fnExactIsTableauUptoRow.holds Try.pinned (OpenSpec.upto fnExactIsTableauSpec)

/-- 'laws.FnExactCountPeaks', WHERE WHAT IT READS IS OF BULK AT MOST 1048576: true; the input reads as it did. -/
def fnExactCountPeaksUptoRow : OpenClaim := { program := "ytfainpmcdfckkaa", sum := "03367df88c4a457cfceda3ddf6a49574cb1f6cfd1f49469ef07f3791b5e800ac", func := "loop.example/g03101/laws.FnExactCountPeaks", spec := "fnExactCountPeaks", inPlace := ["internal/bytealg.CountString", "internal/bytealg.IndexByteString", "internal/bytealg.IndexString"], named := ["internal/bytealg.MaxLen"], apart := false, narrowed := true }
def FnExactCountPeaksUptoSaid : Prop := fnExactCountPeaksUptoRow.holds Try.pinned (OpenSpec.upto fnExactCountPeaksSpec)

/-- 'laws.FnExactTableauxOf', WHERE WHAT IT READS IS OF BULK AT MOST 1048576: true; the input reads as it did. -/
def fnExactTableauxOfUptoRow : OpenClaim := { program := "ytfainpmcdfckkaa", sum := "03367df88c4a457cfceda3ddf6a49574cb1f6cfd1f49469ef07f3791b5e800ac", func := "loop.example/g03101/laws.FnExactTableauxOf", spec := "fnExactTableauxOf", recurses := true, apart := false, narrowed := true }
def FnExactTableauxOfUptoSaid : Prop := fnExactTableauxOfUptoRow.holds Try.pinned (OpenSpec.upto fnExactTableauxOfSpec)

/-- 'laws.FnExactFormOf', WHERE WHAT IT READS IS OF BULK AT MOST 1048576: true; the input reads as it did. -/
def fnExactFormOfUptoRow : OpenClaim := { program := "ytfainpmcdfckkaa", sum := "03367df88c4a457cfceda3ddf6a49574cb1f6cfd1f49469ef07f3791b5e800ac", func := "loop.example/g03101/laws.FnExactFormOf", spec := "fnExactFormOf", apart := false, narrowed := true }
def FnExactFormOfUptoSaid : Prop := fnExactFormOfUptoRow.holds Try.pinned (OpenSpec.upto fnExactFormOfSpec)

/-- 'laws.FnExactTurnTableau', WHERE WHAT IT READS IS OF BULK AT MOST 1048576: true; the input reads as it did. -/
def fnExactTurnTableauUptoRow : OpenClaim := { program := "ytfainpmcdfckkaa", sum := "03367df88c4a457cfceda3ddf6a49574cb1f6cfd1f49469ef07f3791b5e800ac", func := "loop.example/g03101/laws.FnExactTurnTableau", spec := "fnExactTurnTableau", apart := false, narrowed := true }
def FnExactTurnTableauUptoSaid : Prop := fnExactTurnTableauUptoRow.holds Try.pinned (OpenSpec.upto fnExactTurnTableauSpec)

/-- 'laws.FnExactPathOf', WHERE WHAT IT READS IS OF BULK AT MOST 1048576: true; the input reads as it did. -/
def fnExactPathOfUptoRow : OpenClaim := { program := "ytfainpmcdfckkaa", sum := "03367df88c4a457cfceda3ddf6a49574cb1f6cfd1f49469ef07f3791b5e800ac", func := "loop.example/g03101/laws.FnExactPathOf", spec := "fnExactPathOf", inPlace := ["internal/abi.NoEscape", "internal/bytealg.MakeNoZero"], recurses := true, apart := false, narrowed := true }
def FnExactPathOfUptoSaid : Prop := fnExactPathOfUptoRow.holds Try.pinned (OpenSpec.upto fnExactPathOfSpec)

/-- 'laws.FnExactPermOfTableaux', WHERE WHAT IT READS IS OF BULK AT MOST 1048576: true; the input reads as it did. -/
def fnExactPermOfTableauxUptoRow : OpenClaim := { program := "ytfainpmcdfckkaa", sum := "03367df88c4a457cfceda3ddf6a49574cb1f6cfd1f49469ef07f3791b5e800ac", func := "loop.example/g03101/laws.FnExactPermOfTableaux", spec := "fnExactPermOfTableaux", unfollowed := true, recurses := true, apart := false, narrowed := true }
def FnExactPermOfTableauxUptoSaid : Prop := fnExactPermOfTableauxUptoRow.holds Try.pinned (OpenSpec.upto fnExactPermOfTableauxSpec)

/-- 'laws.FnExactPathsOf', WHERE WHAT IT READS IS OF BULK AT MOST 1048576: true; the input reads as it did. -/
def fnExactPathsOfUptoRow : OpenClaim := { program := "ytfainpmcdfckkaa", sum := "03367df88c4a457cfceda3ddf6a49574cb1f6cfd1f49469ef07f3791b5e800ac", func := "loop.example/g03101/laws.FnExactPathsOf", spec := "fnExactPathsOf", inPlace := ["internal/bytealg.CountString", "internal/bytealg.IndexByteString", "internal/bytealg.IndexString"], recurses := true, named := ["internal/bytealg.MaxLen"], apart := false, narrowed := true }
def FnExactPathsOfUptoSaid : Prop := fnExactPathsOfUptoRow.holds Try.pinned (OpenSpec.upto fnExactPathsOfSpec)

end Rows
end Go.Proofs.Ytfainpmcdfckkaa
