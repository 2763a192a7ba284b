/-
  No cell of these rows narrows 'for every input' (looked for: loops, veiled, ifaces, maps, wideKeys, modest, calm, conditions, laid).
  DERIVED. THE GIVEN ROWS OF THIS SEAT. 5 by the template 'for every input the law returns true; each argument reads behind the call as it read before'; 0 by the template 'total and deterministic' (their statements: YtfdnpobppelhaaaTotals.lean).
  GIVEN WITH THE SEED: the statements are not yours to turn. If you find one false, say at which input.
  Laid BY PROGRAM, IN A SANDBOX (cutbox-rows.mjs): the forced cells as the released guide's own fill.sh prints them over the translation b827000801c844e5… (all of the seat's roots in one cut). By AI agents, Wed Nov 11 2026. No macro, syntax, notation, axiom, sorry.
-/
import Derived.Test.YtfdnpobppelhaaaChecked
import GoSem.Claim
import GoSem.ClaimJoined
import GoSem.ClaimMapViews
import Derived.JoinedTies
import Derived.KernelRfl
namespace Go.Proofs.Ytfdnpobppelhaaa
/- THE CELL 'sum', in the pinned program and in every row, IS THE sha256 OF THE DUMP (.gsa) THAT YtfdnpobppelhaaaProg.lean LOADS. Nothing in Lean hashes anything: it is a label: what it is worth is what the hold of that sum in a sandbox is worth. -/
noncomputable def Try.pinned : Pinned := { name := "ytfdnpobppelhaaa", sum := "b827000801c844e5f2169a8eb2c9fd03ef885c0937f052f58d6e9c5cd67e5853", checked := Try.checked }
namespace Rows
def none {H : Type} : Left H := { results := [], args := [] }

/-- 'laws.FnRiders': WHATEVER THE INPUT: true; the input reads as it did. -/
def fnRidersSpec : ChangeSpec := { name := "fnRiders", fn := fun _ => fun
  | [d] => { results := [.lit (.bool true)], args := [d] }
  | _ => none }
def fnRidersRow : OpenClaim := { program := "ytfdnpobppelhaaa", sum := "b827000801c844e5f2169a8eb2c9fd03ef885c0937f052f58d6e9c5cd67e5853", func := "loop.example/g01050/laws.FnRiders", spec := "fnRiders", apart := false }
def FnRidersSaid : Prop := fnRidersRow.holds Try.pinned (OpenSpec.ofChange fnRidersSpec)

/-- ITS FALSE NEIGHBOUR: 'it returns false'. Refute it at one input. -/
def fnRidersWrong : ChangeSpec := { name := "fnRiders", fn := fun _ => fun
  | [d] => { results := [.lit (.bool false)], args := [d] }
  | _ => none }
def FnRidersWrongFalsely : Prop := fnRidersRow.holds Try.pinned (OpenSpec.ofChange fnRidersWrong)

/-- 'laws.FnSets': WHATEVER THE INPUT: true; the input reads as it did. -/
def fnSetsSpec : ChangeSpec := { name := "fnSets", fn := fun _ => fun
  | [d] => { results := [.lit (.bool true)], args := [d] }
  | _ => none }
def fnSetsRow : OpenClaim := { program := "ytfdnpobppelhaaa", sum := "b827000801c844e5f2169a8eb2c9fd03ef885c0937f052f58d6e9c5cd67e5853", func := "loop.example/g01050/laws.FnSets", spec := "fnSets", apart := false }
def FnSetsSaid : Prop := fnSetsRow.holds Try.pinned (OpenSpec.ofChange fnSetsSpec)

/-- ITS FALSE NEIGHBOUR: 'it returns false'. Refute it at one input. -/
def fnSetsWrong : ChangeSpec := { name := "fnSets", fn := fun _ => fun
  | [d] => { results := [.lit (.bool false)], args := [d] }
  | _ => none }
def FnSetsWrongFalsely : Prop := fnSetsRow.holds Try.pinned (OpenSpec.ofChange fnSetsWrong)

/-- 'laws.FnExactSizesTable': WHATEVER THE INPUT: true; the input reads as it did. -/
def fnExactSizesTableSpec : ChangeSpec := { name := "fnExactSizesTable", fn := fun _ => fun
  | [d1, d2] => { results := [.lit (.bool true)], args := [d1, d2] }
  | _ => none }
def fnExactSizesTableRow : OpenClaim := { program := "ytfdnpobppelhaaa", sum := "b827000801c844e5f2169a8eb2c9fd03ef885c0937f052f58d6e9c5cd67e5853", func := "loop.example/g01050/laws.FnExactSizesTable", spec := "fnExactSizesTable", apart := false }
def FnExactSizesTableSaid : Prop := fnExactSizesTableRow.holds Try.pinned (OpenSpec.ofChange fnExactSizesTableSpec)

/-- ITS FALSE NEIGHBOUR: 'it returns false'. Refute it at one input. -/
def fnExactSizesTableWrong : ChangeSpec := { name := "fnExactSizesTable", fn := fun _ => fun
  | [d1, d2] => { results := [.lit (.bool false)], args := [d1, d2] }
  | _ => none }
def FnExactSizesTableWrongFalsely : Prop := fnExactSizesTableRow.holds Try.pinned (OpenSpec.ofChange fnExactSizesTableWrong)

/-- 'laws.FnExactFewestSizes': WHATEVER THE INPUT: true; the input reads as it did. -/
def fnExactFewestSizesSpec : ChangeSpec := { name := "fnExactFewestSizes", fn := fun _ => fun
  | [d1, d2] => { results := [.lit (.bool true)], args := [d1, d2] }
  | _ => none }
def fnExactFewestSizesRow : OpenClaim := { program := "ytfdnpobppelhaaa", sum := "b827000801c844e5f2169a8eb2c9fd03ef885c0937f052f58d6e9c5cd67e5853", func := "loop.example/g01050/laws.FnExactFewestSizes", spec := "fnExactFewestSizes", recurses := true, apart := false }
def FnExactFewestSizesSaid : Prop := fnExactFewestSizesRow.holds Try.pinned (OpenSpec.ofChange fnExactFewestSizesSpec)

/-- ITS FALSE NEIGHBOUR: 'it returns false'. Refute it at one input. -/
def fnExactFewestSizesWrong : ChangeSpec := { name := "fnExactFewestSizes", fn := fun _ => fun
  | [d1, d2] => { results := [.lit (.bool false)], args := [d1, d2] }
  | _ => none }
def FnExactFewestSizesWrongFalsely : Prop := fnExactFewestSizesRow.holds Try.pinned (OpenSpec.ofChange fnExactFewestSizesWrong)

/-- 'laws.FnSizes': WHATEVER THE INPUT: true; the input reads as it did. -/
def fnSizesSpec : ChangeSpec := { name := "fnSizes", fn := fun _ => fun
  | [d] => { results := [.lit (.bool true)], args := [d] }
  | _ => none }
def fnSizesRow : OpenClaim := { program := "ytfdnpobppelhaaa", sum := "b827000801c844e5f2169a8eb2c9fd03ef885c0937f052f58d6e9c5cd67e5853", func := "loop.example/g01050/laws.FnSizes", spec := "fnSizes", recurses := true, apart := false }
def FnSizesSaid : Prop := fnSizesRow.holds Try.pinned (OpenSpec.ofChange fnSizesSpec)

/-- ITS FALSE NEIGHBOUR: 'it returns false'. Refute it at one input. -/
def fnSizesWrong : ChangeSpec := { name := "fnSizes", fn := fun _ => fun
  | [d] => { results := [.lit (.bool false)], args := [d] }
  | _ => none }
def FnSizesWrongFalsely : Prop := fnSizesRow.holds Try.pinned (OpenSpec.ofChange fnSizesWrong)

/- THE SECOND FORM. 'bulk': how many values and letters a reading holds, each counted each time it is reached (what is shared counts as often as it is met; a slice's spare places count too). A statement '..UptoSaid' is the law's where the arguments, and the package variables that the reading takes, are together of bulk at most 1048576: NARROWER than '..Said'. Prove '..Said' where nothing that the law and all that it calls make is longer than what came in: it says more and counts as full. Else prove '..UptoSaid'. A law counts once. -/
mutual
def uptoBulk {H : Type} : DataW H → Nat
  | .lit (.string bytes) => bytes.length + 1
  | .lit _ => 1
  | .nil => 1
  | .ptr d => uptoBulk d + 1
  | .slice elems spare => uptoBulkAll elems + uptoBulkAll spare + 1
  | .agg parts => uptoBulkAll parts + 1
  | .iface _ d => uptoBulk d + 1
  | .map entries => uptoBulkEntries entries + 1
  | .held _ => 1
def uptoBulkAll {H : Type} : List (DataW H) → Nat
  | [] => 0
  | d :: r => uptoBulk d + uptoBulkAll r
def uptoBulkEntries {H : Type} : List (Lit × DataW H) → Nat
  | [] => 0
  | x :: r => uptoBulkEntry x + uptoBulkEntries r
def uptoBulkEntry {H : Type} : Lit × DataW H → Nat
  | (.string bytes, d) => bytes.length + uptoBulk d + 1
  | (_, d) => uptoBulk d + 1
 end
def uptoSmall : (H : Type) → List (DataW H) → Bool := fun _ ds => decide (uptoBulkAll ds ≤ 1048576)
def OpenSpec.upto (s : _root_.Go.ChangeSpec) : _root_.Go.OpenSpec := { _root_.Go.OpenSpec.ofChange s with cond := some uptoSmall }

/-- 'laws.FnRiders', WHERE WHAT IT READS IS OF BULK AT MOST 1048576: true; the input reads as it did. -/
def fnRidersUptoRow : OpenClaim := { program := "ytfdnpobppelhaaa", sum := "b827000801c844e5f2169a8eb2c9fd03ef885c0937f052f58d6e9c5cd67e5853", func := "loop.example/g01050/laws.FnRiders", spec := "fnRiders", apart := false, narrowed := true }
def FnRidersUptoSaid : Prop := fnRidersUptoRow.holds Try.pinned (OpenSpec.upto fnRidersSpec)

/-- 'laws.FnSets', WHERE WHAT IT READS IS OF BULK AT MOST 1048576: true; the input reads as it did. -/
def fnSetsUptoRow : OpenClaim := { program := "ytfdnpobppelhaaa", sum := "b827000801c844e5f2169a8eb2c9fd03ef885c0937f052f58d6e9c5cd67e5853", func := "loop.example/g01050/laws.FnSets", spec := "fnSets", apart := false, narrowed := true }
def FnSetsUptoSaid : Prop := fnSetsUptoRow.holds Try.pinned (OpenSpec.upto fnSetsSpec)

/-- 'laws.FnExactSizesTable', WHERE WHAT IT READS IS OF BULK AT MOST 1048576: true; the input reads as it did. -/
def fnExactSizesTableUptoRow : OpenClaim := { program := "ytfdnpobppelhaaa", sum := "b827000801c844e5f2169a8eb2c9fd03ef885c0937f052f58d6e9c5cd67e5853", func := "loop.example/g01050/laws.FnExactSizesTable", spec := "fnExactSizesTable", apart := false, narrowed := true }
def FnExactSizesTableUptoSaid : Prop := fnExactSizesTableUptoRow.holds Try.pinned (OpenSpec.upto fnExactSizesTableSpec)

/-- 'laws.FnExactFewestSizes', WHERE WHAT IT READS IS OF BULK AT MOST 1048576: true; the input reads as it did. -/
def fnExactFewestSizesUptoRow : OpenClaim := { program := "ytfdnpobppelhaaa", sum := "b827000801c844e5f2169a8eb2c9fd03ef885c0937f052f58d6e9c5cd67e5853", func := "loop.example/g01050/laws.FnExactFewestSizes", spec := "fnExactFewestSizes", recurses := true, apart := false, narrowed := true }
def FnExactFewestSizesUptoSaid : Prop := fnExactFewestSizesUptoRow.holds Try.pinned (OpenSpec.upto fnExactFewestSizesSpec)

/-- 'laws.FnSizes', WHERE WHAT IT READS IS OF BULK AT MOST 1048576: true; the input reads as it did. -/
def fnSizesUptoRow : OpenClaim := { program := "ytfdnpobppelhaaa", sum := "b827000801c844e5f2169a8eb2c9fd03ef885c0937f052f58d6e9c5cd67e5853", func := "loop.example/g01050/laws.FnSizes", spec := "fnSizes", recurses := true, apart := false, narrowed := true }
def FnSizesUptoSaid : Prop := fnSizesUptoRow.holds Try.pinned (OpenSpec.upto fnSizesSpec)

end Rows
end Go.Proofs.Ytfdnpobppelhaaa
