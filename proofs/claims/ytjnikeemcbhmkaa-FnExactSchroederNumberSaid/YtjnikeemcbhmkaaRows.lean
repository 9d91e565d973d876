/-
  No cell of these rows narrows 'for every input' (looked for: loops, veiled, ifaces, maps, wideKeys, modest, calm, conditions, laid).
  DERIVED. THE GIVEN ROWS OF THIS SEAT. 6 by the template 'for every input the law returns true; each argument reads behind the call as it read before'; 0 by the template 'total and deterministic' (their statements: YtjnikeemcbhmkaaTotals.lean).
  GIVEN WITH THE SEED: the statements are not yours to turn. If you find one false, say at which input.
  Laid BY PROGRAM, IN A SANDBOX (cutbox-rows.mjs): the forced cells as the released guide's own fill.sh prints them over the translation 93207454b5f41e20… (all of the seat's roots in one cut). By AI agents, Wed Nov 11 2026. No macro, syntax, notation, axiom, sorry.
-/
import Derived.Test.YtjnikeemcbhmkaaChecked
import GoSem.Claim
import GoSem.ClaimJoined
import GoSem.ClaimMapViews
import Derived.JoinedTies
import Derived.KernelRfl
namespace Go.Proofs.Ytjnikeemcbhmkaa
/- THE CELL 'sum', in the pinned program and in every row, IS THE sha256 OF THE DUMP (.gsa) THAT YtjnikeemcbhmkaaProg.lean LOADS. Nothing in Lean hashes anything: it is a label: what it is worth is what the hold of that sum in a sandbox is worth. -/
noncomputable def Try.pinned : Pinned := { name := "ytjnikeemcbhmkaa", sum := "93207454b5f41e204b0ffef8789dcd9f60669f7ac42926073c9f43dc809de0ba", checked := Try.checked }
namespace Rows
def none {H : Type} : Left H := { results := [], args := [] }

/-- 'laws.FnExactFibonacciNumber': WHATEVER THE INPUT: true; the input reads as it did. -/
def fnExactFibonacciNumberSpec : ChangeSpec := { name := "fnExactFibonacciNumber", fn := fun _ => fun
  | [d] => { results := [.lit (.bool true)], args := [d] }
  | _ => none }
def fnExactFibonacciNumberRow : OpenClaim := { program := "ytjnikeemcbhmkaa", sum := "93207454b5f41e204b0ffef8789dcd9f60669f7ac42926073c9f43dc809de0ba", func := "loop.example/g03101/laws.FnExactFibonacciNumber", spec := "fnExactFibonacciNumber", apart := false }
def FnExactFibonacciNumberSaid : Prop := fnExactFibonacciNumberRow.holds Try.pinned (OpenSpec.ofChange fnExactFibonacciNumberSpec)

/-- ITS FALSE NEIGHBOUR: 'it returns false'. Refute it at one input. -/
def fnExactFibonacciNumberWrong : ChangeSpec := { name := "fnExactFibonacciNumber", fn := fun _ => fun
  | [d] => { results := [.lit (.bool false)], args := [d] }
  | _ => none }
def FnExactFibonacciNumberWrongFalsely : Prop := fnExactFibonacciNumberRow.holds Try.pinned (OpenSpec.ofChange fnExactFibonacciNumberWrong)

/-- 'laws.FnExactSchroederNumber': WHATEVER THE INPUT: true; the input reads as it did. -/
def fnExactSchroederNumberSpec : ChangeSpec := { name := "fnExactSchroederNumber", fn := fun _ => fun
  | [d] => { results := [.lit (.bool true)], args := [d] }
  | _ => none }
def fnExactSchroederNumberRow : OpenClaim := { program := "ytjnikeemcbhmkaa", sum := "93207454b5f41e204b0ffef8789dcd9f60669f7ac42926073c9f43dc809de0ba", func := "loop.example/g03101/laws.FnExactSchroederNumber", spec := "fnExactSchroederNumber", apart := false }
def FnExactSchroederNumberSaid : Prop := fnExactSchroederNumberRow.holds Try.pinned (OpenSpec.ofChange fnExactSchroederNumberSpec)

/-- ITS FALSE NEIGHBOUR: 'it returns false'. Refute it at one input. -/
def fnExactSchroederNumberWrong : ChangeSpec := { name := "fnExactSchroederNumber", fn := fun _ => fun
  | [d] => { results := [.lit (.bool false)], args := [d] }
  | _ => none }
def FnExactSchroederNumberWrongFalsely : Prop := fnExactSchroederNumberRow.holds Try.pinned (OpenSpec.ofChange fnExactSchroederNumberWrong)

/-- 'laws.FnExactCatalanNumber': WHATEVER THE INPUT: true; the input reads as it did. -/
def fnExactCatalanNumberSpec : ChangeSpec := { name := "fnExactCatalanNumber", fn := fun _ => fun
  | [d] => { results := [.lit (.bool true)], args := [d] }
  | _ => none }
def fnExactCatalanNumberRow : OpenClaim := { program := "ytjnikeemcbhmkaa", sum := "93207454b5f41e204b0ffef8789dcd9f60669f7ac42926073c9f43dc809de0ba", func := "loop.example/g03101/laws.FnExactCatalanNumber", spec := "fnExactCatalanNumber", apart := false }
def FnExactCatalanNumberSaid : Prop := fnExactCatalanNumberRow.holds Try.pinned (OpenSpec.ofChange fnExactCatalanNumberSpec)

/-- ITS FALSE NEIGHBOUR: 'it returns false'. Refute it at one input. -/
def fnExactCatalanNumberWrong : ChangeSpec := { name := "fnExactCatalanNumber", fn := fun _ => fun
  | [d] => { results := [.lit (.bool false)], args := [d] }
  | _ => none }
def FnExactCatalanNumberWrongFalsely : Prop := fnExactCatalanNumberRow.holds Try.pinned (OpenSpec.ofChange fnExactCatalanNumberWrong)

/-- 'laws.FnExactIsPath': WHATEVER THE INPUT: true; the input reads as it did. -/
def fnExactIsPathSpec : ChangeSpec := { name := "fnExactIsPath", fn := fun _ => fun
  | [d] => { results := [.lit (.bool true)], args := [d] }
  | _ => none }
def fnExactIsPathRow : OpenClaim := { program := "ytjnikeemcbhmkaa", sum := "93207454b5f41e204b0ffef8789dcd9f60669f7ac42926073c9f43dc809de0ba", func := "loop.example/g03101/laws.FnExactIsPath", spec := "fnExactIsPath", apart := false }
def FnExactIsPathSaid : Prop := fnExactIsPathRow.holds Try.pinned (OpenSpec.ofChange fnExactIsPathSpec)

/-- ITS FALSE NEIGHBOUR: 'it returns false'. Refute it at one input. -/
def fnExactIsPathWrong : ChangeSpec := { name := "fnExactIsPath", fn := fun _ => fun
  | [d] => { results := [.lit (.bool false)], args := [d] }
  | _ => none }
def FnExactIsPathWrongFalsely : Prop := fnExactIsPathRow.holds Try.pinned (OpenSpec.ofChange fnExactIsPathWrong)

/-- 'laws.FnExactCountReturns': WHATEVER THE INPUT: true; the input reads as it did. -/
def fnExactCountReturnsSpec : ChangeSpec := { name := "fnExactCountReturns", fn := fun _ => fun
  | [d] => { results := [.lit (.bool true)], args := [d] }
  | _ => none }
def fnExactCountReturnsRow : OpenClaim := { program := "ytjnikeemcbhmkaa", sum := "93207454b5f41e204b0ffef8789dcd9f60669f7ac42926073c9f43dc809de0ba", func := "loop.example/g03101/laws.FnExactCountReturns", spec := "fnExactCountReturns", apart := false }
def FnExactCountReturnsSaid : Prop := fnExactCountReturnsRow.holds Try.pinned (OpenSpec.ofChange fnExactCountReturnsSpec)

/-- ITS FALSE NEIGHBOUR: 'it returns false'. Refute it at one input. -/
def fnExactCountReturnsWrong : ChangeSpec := { name := "fnExactCountReturns", fn := fun _ => fun
  | [d] => { results := [.lit (.bool false)], args := [d] }
  | _ => none }
def FnExactCountReturnsWrongFalsely : Prop := fnExactCountReturnsRow.holds Try.pinned (OpenSpec.ofChange fnExactCountReturnsWrong)

/-- 'laws.FnExactPathHeight': WHATEVER THE INPUT: true; the input reads as it did. -/
def fnExactPathHeightSpec : ChangeSpec := { name := "fnExactPathHeight", fn := fun _ => fun
  | [d] => { results := [.lit (.bool true)], args := [d] }
  | _ => none }
def fnExactPathHeightRow : OpenClaim := { program := "ytjnikeemcbhmkaa", sum := "93207454b5f41e204b0ffef8789dcd9f60669f7ac42926073c9f43dc809de0ba", func := "loop.example/g03101/laws.FnExactPathHeight", spec := "fnExactPathHeight", apart := false }
def FnExactPathHeightSaid : Prop := fnExactPathHeightRow.holds Try.pinned (OpenSpec.ofChange fnExactPathHeightSpec)

/-- ITS FALSE NEIGHBOUR: 'it returns false'. Refute it at one input. -/
def fnExactPathHeightWrong : ChangeSpec := { name := "fnExactPathHeight", fn := fun _ => fun
  | [d] => { results := [.lit (.bool false)], args := [d] }
  | _ => none }
def FnExactPathHeightWrongFalsely : Prop := fnExactPathHeightRow.holds Try.pinned (OpenSpec.ofChange fnExactPathHeightWrong)

/- THE SECOND FORM. 'bulk': how many values and letters a reading holds, each counted each time it is reached (what is shared counts as often as it is met; a slice's spare places count too). A statement '..UptoSaid' is the law's where the arguments, and the package variables that the reading takes, are together of bulk at most 1048576: NARROWER than '..Said'. Prove '..Said' where nothing that the law and all that it calls make is longer than what came in: it says more and counts as full. Else prove '..UptoSaid'. A law counts once. -/
mutual
def uptoBulk {H : Type} : DataW H → Nat
  | .lit (.string bytes) => bytes.length + 1
  | .lit _ => 1
  | .nil => 1
  | .ptr d => uptoBulk d + 1
  | .slice elems spare => uptoBulkAll elems + uptoBulkAll spare + 1
  | .agg parts => uptoBulkAll parts + 1
  | .iface _ d => uptoBulk d + 1
  | .map entries => uptoBulkEntries entries + 1
  | .held _ => 1
def uptoBulkAll {H : Type} : List (DataW H) → Nat
  | [] => 0
  | d :: r => uptoBulk d + uptoBulkAll r
def uptoBulkEntries {H : Type} : List (Lit × DataW H) → Nat
  | [] => 0
  | x :: r => uptoBulkEntry x + uptoBulkEntries r
def uptoBulkEntry {H : Type} : Lit × DataW H → Nat
  | (.string bytes, d) => bytes.length + uptoBulk d + 1
  | (_, d) => uptoBulk d + 1
 end
def uptoSmall : (H : Type) → List (DataW H) → Bool := fun _ ds => decide (uptoBulkAll ds ≤ 1048576)
def OpenSpec.upto (s : _root_.Go.ChangeSpec) : _root_.Go.OpenSpec := { _root_.Go.OpenSpec.ofChange s with cond := some uptoSmall }

/-- 'laws.FnExactFibonacciNumber', WHERE WHAT IT READS IS OF BULK AT MOST 1048576: true; the input reads as it did. -/
def fnExactFibonacciNumberUptoRow : OpenClaim := { program := "ytjnikeemcbhmkaa", sum := "93207454b5f41e204b0ffef8789dcd9f60669f7ac42926073c9f43dc809de0ba", func := "loop.example/g03101/laws.FnExactFibonacciNumber", spec := "fnExactFibonacciNumber", apart := false, narrowed := true }
def FnExactFibonacciNumberUptoSaid : Prop := fnExactFibonacciNumberUptoRow.holds Try.pinned (OpenSpec.upto fnExactFibonacciNumberSpec)

/-- 'laws.FnExactSchroederNumber', WHERE WHAT IT READS IS OF BULK AT MOST 1048576: true; the input reads as it did. -/
def fnExactSchroederNumberUptoRow : OpenClaim := { program := "ytjnikeemcbhmkaa", sum := "93207454b5f41e204b0ffef8789dcd9f60669f7ac42926073c9f43dc809de0ba", func := "loop.example/g03101/laws.FnExactSchroederNumber", spec := "fnExactSchroederNumber", apart := false, narrowed := true }
def FnExactSchroederNumberUptoSaid : Prop := fnExactSchroederNumberUptoRow.holds Try.pinned (OpenSpec.upto fnExactSchroederNumberSpec)

/-- 'laws.FnExactCatalanNumber', WHERE WHAT IT READS IS OF BULK AT MOST 1048576: true; the input reads as it did. -/
def fnExactCatalanNumberUptoRow : OpenClaim := { program := "ytjnikeemcbhmkaa", sum := "93207454b5f41e204b0ffef8789dcd9f60669f7ac42926073c9f43dc809de0ba", func := "loop.example/g03101/laws.FnExactCatalanNumber", spec := "fnExactCatalanNumber", apart := false, narrowed := true }
def FnExactCatalanNumberUptoSaid : Prop := fnExactCatalanNumberUptoRow.holds Try.pinned (OpenSpec.upto fnExactCatalanNumberSpec)

/-- 'laws.FnExactIsPath', WHERE WHAT IT READS IS OF BULK AT MOST 1048576: true; the input reads as it did. -/
def fnExactIsPathUptoRow : OpenClaim := { program := "ytjnikeemcbhmkaa", sum := "93207454b5f41e204b0ffef8789dcd9f60669f7ac42926073c9f43dc809de0ba", func := "loop.example/g03101/laws.FnExactIsPath", spec := "fnExactIsPath", apart := false, narrowed := true }
def FnExactIsPathUptoSaid : Prop := fnExactIsPathUptoRow.holds Try.pinned (OpenSpec.upto fnExactIsPathSpec)

/-- 'laws.FnExactCountReturns', WHERE WHAT IT READS IS OF BULK AT MOST 1048576: true; the input reads as it did. -/
def fnExactCountReturnsUptoRow : OpenClaim := { program := "ytjnikeemcbhmkaa", sum := "93207454b5f41e204b0ffef8789dcd9f60669f7ac42926073c9f43dc809de0ba", func := "loop.example/g03101/laws.FnExactCountReturns", spec := "fnExactCountReturns", apart := false, narrowed := true }
def FnExactCountReturnsUptoSaid : Prop := fnExactCountReturnsUptoRow.holds Try.pinned (OpenSpec.upto fnExactCountReturnsSpec)

/-- 'laws.FnExactPathHeight', WHERE WHAT IT READS IS OF BULK AT MOST 1048576: true; the input reads as it did. -/
def fnExactPathHeightUptoRow : OpenClaim := { program := "ytjnikeemcbhmkaa", sum := "93207454b5f41e204b0ffef8789dcd9f60669f7ac42926073c9f43dc809de0ba", func := "loop.example/g03101/laws.FnExactPathHeight", spec := "fnExactPathHeight", apart := false, narrowed := true }
def FnExactPathHeightUptoSaid : Prop := fnExactPathHeightUptoRow.holds Try.pinned (OpenSpec.upto fnExactPathHeightSpec)

end Rows
end Go.Proofs.Ytjnikeemcbhmkaa
