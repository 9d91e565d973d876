/-
  No cell of these rows narrows 'for every input' (looked for: loops, veiled, ifaces, maps, wideKeys, modest, calm, conditions, laid).
  DERIVED. THE GIVEN ROWS OF THIS SEAT. 3 by the template 'for every input the law returns true; each argument reads behind the call as it read before'; 0 by the template 'total and deterministic' (their statements: YtdchjhhpbdekeaaTotals.lean).
  GIVEN WITH THE SEED: the statements are not yours to turn. If you find one false, say at which input.
  Laid BY PROGRAM, IN A SANDBOX (cutbox-rows.mjs): the forced cells as the released guide's own fill.sh prints them over the translation 8c2bfe1768978ee2… (all of the seat's roots in one cut). By AI agents, Wed Nov 11 2026. No macro, syntax, notation, axiom, sorry.
-/
import Derived.Test.YtdchjhhpbdekeaaChecked
import GoSem.Claim
import GoSem.ClaimJoined
import GoSem.ClaimMapViews
import Derived.JoinedTies
import Derived.KernelRfl
namespace Go.Proofs.Ytdchjhhpbdekeaa
/- THE CELL 'sum', in the pinned program and in every row, IS THE sha256 OF THE DUMP (.gsa) THAT YtdchjhhpbdekeaaProg.lean LOADS. Nothing in Lean hashes anything: it is a label: what it is worth is what the hold of that sum in a sandbox is worth. -/
noncomputable def Try.pinned : Pinned := { name := "ytdchjhhpbdekeaa", sum := "8c2bfe1768978ee2779474c1c81a58b0ad3e9bd3f1b1195aafcaeef2a966d26b", checked := Try.checked }
namespace Rows
def none {H : Type} : Left H := { results := [], args := [] }

/-- 'laws.FnStacks': WHATEVER THE INPUT: true; the input reads as it did. -/
def fnStacksSpec : ChangeSpec := { name := "fnStacks", fn := fun _ => fun
  | [d] => { results := [.lit (.bool true)], args := [d] }
  | _ => none }
def fnStacksRow : OpenClaim := { program := "ytdchjhhpbdekeaa", sum := "8c2bfe1768978ee2779474c1c81a58b0ad3e9bd3f1b1195aafcaeef2a966d26b", func := "loop.example/g03101/laws.FnStacks", spec := "fnStacks", unfollowed := true, recurses := true, plainKeys := false, apart := false }
def FnStacksSaid : Prop := fnStacksRow.holds Try.pinned (OpenSpec.ofChange fnStacksSpec)

/-- ITS FALSE NEIGHBOUR: 'it returns false'. Refute it at one input. -/
def fnStacksWrong : ChangeSpec := { name := "fnStacks", fn := fun _ => fun
  | [d] => { results := [.lit (.bool false)], args := [d] }
  | _ => none }
def FnStacksWrongFalsely : Prop := fnStacksRow.holds Try.pinned (OpenSpec.ofChange fnStacksWrong)

/-- 'laws.FnGreene': WHATEVER THE INPUT: true; the input reads as it did. -/
def fnGreeneSpec : ChangeSpec := { name := "fnGreene", fn := fun _ => fun
  | [d] => { results := [.lit (.bool true)], args := [d] }
  | _ => none }
def fnGreeneRow : OpenClaim := { program := "ytdchjhhpbdekeaa", sum := "8c2bfe1768978ee2779474c1c81a58b0ad3e9bd3f1b1195aafcaeef2a966d26b", func := "loop.example/g03101/laws.FnGreene", spec := "fnGreene", unfollowed := true, recurses := true, plainKeys := false, apart := false }
def FnGreeneSaid : Prop := fnGreeneRow.holds Try.pinned (OpenSpec.ofChange fnGreeneSpec)

/-- ITS FALSE NEIGHBOUR: 'it returns false'. Refute it at one input. -/
def fnGreeneWrong : ChangeSpec := { name := "fnGreene", fn := fun _ => fun
  | [d] => { results := [.lit (.bool false)], args := [d] }
  | _ => none }
def FnGreeneWrongFalsely : Prop := fnGreeneRow.holds Try.pinned (OpenSpec.ofChange fnGreeneWrong)

/-- 'laws.FnTableaux': WHATEVER THE INPUT: true; the input reads as it did. -/
def fnTableauxSpec : ChangeSpec := { name := "fnTableaux", fn := fun _ => fun
  | [d] => { results := [.lit (.bool true)], args := [d] }
  | _ => none }
def fnTableauxRow : OpenClaim := { program := "ytdchjhhpbdekeaa", sum := "8c2bfe1768978ee2779474c1c81a58b0ad3e9bd3f1b1195aafcaeef2a966d26b", func := "loop.example/g03101/laws.FnTableaux", spec := "fnTableaux", unfollowed := true, recurses := true, plainKeys := false, apart := false }
def FnTableauxSaid : Prop := fnTableauxRow.holds Try.pinned (OpenSpec.ofChange fnTableauxSpec)

/-- ITS FALSE NEIGHBOUR: 'it returns false'. Refute it at one input. -/
def fnTableauxWrong : ChangeSpec := { name := "fnTableaux", fn := fun _ => fun
  | [d] => { results := [.lit (.bool false)], args := [d] }
  | _ => none }
def FnTableauxWrongFalsely : Prop := fnTableauxRow.holds Try.pinned (OpenSpec.ofChange fnTableauxWrong)

/- THE SECOND FORM. 'bulk': how many values and letters a reading holds, each counted each time it is reached (what is shared counts as often as it is met; a slice's spare places count too). A statement '..UptoSaid' is the law's where the arguments, and the package variables that the reading takes, are together of bulk at most 1048576: NARROWER than '..Said'. Prove '..Said' where nothing that the law and all that it calls make is longer than what came in: it says more and counts as full. Else prove '..UptoSaid'. A law counts once. -/
mutual
def uptoBulk {H : Type} : DataW H → Nat
  | .lit (.string bytes) => bytes.length + 1
  | .lit _ => 1
  | .nil => 1
  | .ptr d => uptoBulk d + 1
  | .slice elems spare => uptoBulkAll elems + uptoBulkAll spare + 1
  | .agg parts => uptoBulkAll parts + 1
  | .iface _ d => uptoBulk d + 1
  | .map entries => uptoBulkEntries entries + 1
  | .held _ => 1
def uptoBulkAll {H : Type} : List (DataW H) → Nat
  | [] => 0
  | d :: r => uptoBulk d + uptoBulkAll r
def uptoBulkEntries {H : Type} : List (Lit × DataW H) → Nat
  | [] => 0
  | x :: r => uptoBulkEntry x + uptoBulkEntries r
def uptoBulkEntry {H : Type} : Lit × DataW H → Nat
  | (.string bytes, d) => bytes.length + uptoBulk d + 1
  | (_, d) => uptoBulk d + 1
 end
def uptoSmall : (H : Type) → List (DataW H) → Bool := fun _ ds => decide (uptoBulkAll ds ≤ 1048576)
def OpenSpec.upto (s : _root_.Go.ChangeSpec) : _root_.Go.OpenSpec := { _root_.Go.OpenSpec.ofChange s with cond := some uptoSmall }

/-- 'laws.FnStacks', WHERE WHAT IT READS IS OF BULK AT MOST 1048576: true; the input reads as it did. -/
def fnStacksUptoRow : OpenClaim := { program := "ytdchjhhpbdekeaa", sum := "8c2bfe1768978ee2779474c1c81a58b0ad3e9bd3f1b1195aafcaeef2a966d26b", func := "loop.example/g03101/laws.FnStacks", spec := "fnStacks", unfollowed := true, recurses := true, plainKeys := false, apart := false, narrowed := true }
def FnStacksUptoSaid : Prop := fnStacksUptoRow.holds Try.pinned (OpenSpec.upto fnStacksSpec)

/-- 'laws.FnGreene', WHERE WHAT IT READS IS OF BULK AT MOST 1048576: true; the input reads as it did. -/
def fnGreeneUptoRow : OpenClaim := { program := "ytdchjhhpbdekeaa", sum := "8c2bfe1768978ee2779474c1c81a58b0ad3e9bd3f1b1195aafcaeef2a966d26b", func := "loop.example/g03101/laws.FnGreene", spec := "fnGreene", unfollowed := true, recurses := true, plainKeys := false, apart := false, narrowed := true }
def FnGreeneUptoSaid : Prop := fnGreeneUptoRow.holds Try.pinned (OpenSpec.upto fnGreeneSpec)

/-- 'laws.FnTableaux', WHERE WHAT IT READS IS OF BULK AT MOST 1048576: true; the input reads as it did. -/
def fnTableauxUptoRow : OpenClaim := { program := "ytdchjhhpbdekeaa", sum := "8c2bfe1768978ee2779474c1c81a58b0ad3e9bd3f1b1195aafcaeef2a966d26b", func := "loop.example/g03101/laws.FnTableaux", spec := "fnTableaux", unfollowed := true, recurses := true, plainKeys := false, apart := false, narrowed := true }
def FnTableauxUptoSaid : Prop := fnTableauxUptoRow.holds Try.pinned (OpenSpec.upto fnTableauxSpec)

end Rows
end Go.Proofs.Ytdchjhhpbdekeaa
