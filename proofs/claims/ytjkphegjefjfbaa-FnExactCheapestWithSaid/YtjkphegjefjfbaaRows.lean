/-
  No cell of these rows narrows 'for every input' (looked for: loops, veiled, ifaces, maps, wideKeys, modest, calm, conditions, laid).
  DERIVED. THE GIVEN ROWS OF THIS SEAT. 12 by the template 'for every input the law returns true; each argument reads behind the call as it read before'; 0 by the template 'total and deterministic' (their statements: YtjkphegjefjfbaaTotals.lean).
  GIVEN WITH THE SEED: the statements are not yours to turn. If you find one false, say at which input.
  Laid BY PROGRAM, IN A SANDBOX (cutbox-rows.mjs): the forced cells as the released guide's own fill.sh prints them over the translation cff8c702c04da990… (all of the seat's roots in one cut). By AI agents, Wed Nov 11 2026. No macro, syntax, notation, axiom, sorry.
-/
import Derived.Test.YtjkphegjefjfbaaChecked
import GoSem.Claim
import GoSem.ClaimJoined
import GoSem.ClaimMapViews
import Derived.JoinedTies
import Derived.KernelRfl
namespace Go.Proofs.Ytjkphegjefjfbaa
/- THE CELL 'sum', in the pinned program and in every row, IS THE sha256 OF THE DUMP (.gsa) THAT YtjkphegjefjfbaaProg.lean LOADS. Nothing in Lean hashes anything: it is a label: what it is worth is what the hold of that sum in a sandbox is worth. -/
noncomputable def Try.pinned : Pinned := { name := "ytjkphegjefjfbaa", sum := "cff8c702c04da990b0708eb239baf8507355822799d3f06a9e30ad38f2ad0c32", checked := Try.checked }
namespace Rows
def none {H : Type} : Left H := { results := [], args := [] }

/-- 'laws.FnExactCountBicycles': WHATEVER THE INPUT: true; the input reads as it did. -/
def fnExactCountBicyclesSpec : ChangeSpec := { name := "fnExactCountBicycles", fn := fun _ => fun
  | [d1, d2] => { results := [.lit (.bool true)], args := [d1, d2] }
  | _ => none }
def fnExactCountBicyclesRow : OpenClaim := { program := "ytjkphegjefjfbaa", sum := "cff8c702c04da990b0708eb239baf8507355822799d3f06a9e30ad38f2ad0c32", func := "loop.example/g01050/laws.FnExactCountBicycles", spec := "fnExactCountBicycles", recurses := true, apart := false }
def FnExactCountBicyclesSaid : Prop := fnExactCountBicyclesRow.holds Try.pinned (OpenSpec.ofChange fnExactCountBicyclesSpec)

/-- ITS FALSE NEIGHBOUR: 'it returns false'. Refute it at one input. -/
def fnExactCountBicyclesWrong : ChangeSpec := { name := "fnExactCountBicycles", fn := fun _ => fun
  | [d1, d2] => { results := [.lit (.bool false)], args := [d1, d2] }
  | _ => none }
def FnExactCountBicyclesWrongFalsely : Prop := fnExactCountBicyclesRow.holds Try.pinned (OpenSpec.ofChange fnExactCountBicyclesWrong)

/-- 'laws.FnExactCountNodes': WHATEVER THE INPUT: true; the input reads as it did. -/
def fnExactCountNodesSpec : ChangeSpec := { name := "fnExactCountNodes", fn := fun _ => fun
  | [d1, d2] => { results := [.lit (.bool true)], args := [d1, d2] }
  | _ => none }
def fnExactCountNodesRow : OpenClaim := { program := "ytjkphegjefjfbaa", sum := "cff8c702c04da990b0708eb239baf8507355822799d3f06a9e30ad38f2ad0c32", func := "loop.example/g01050/laws.FnExactCountNodes", spec := "fnExactCountNodes", recurses := true, apart := false }
def FnExactCountNodesSaid : Prop := fnExactCountNodesRow.holds Try.pinned (OpenSpec.ofChange fnExactCountNodesSpec)

/-- ITS FALSE NEIGHBOUR: 'it returns false'. Refute it at one input. -/
def fnExactCountNodesWrong : ChangeSpec := { name := "fnExactCountNodes", fn := fun _ => fun
  | [d1, d2] => { results := [.lit (.bool false)], args := [d1, d2] }
  | _ => none }
def FnExactCountNodesWrongFalsely : Prop := fnExactCountNodesRow.holds Try.pinned (OpenSpec.ofChange fnExactCountNodesWrong)

/-- 'laws.FnExactFirstBicycle': WHATEVER THE INPUT: true; the input reads as it did. -/
def fnExactFirstBicycleSpec : ChangeSpec := { name := "fnExactFirstBicycle", fn := fun _ => fun
  | [d1, d2, d3] => { results := [.lit (.bool true)], args := [d1, d2, d3] }
  | _ => none }
def fnExactFirstBicycleRow : OpenClaim := { program := "ytjkphegjefjfbaa", sum := "cff8c702c04da990b0708eb239baf8507355822799d3f06a9e30ad38f2ad0c32", func := "loop.example/g01050/laws.FnExactFirstBicycle", spec := "fnExactFirstBicycle", recurses := true, apart := false }
def FnExactFirstBicycleSaid : Prop := fnExactFirstBicycleRow.holds Try.pinned (OpenSpec.ofChange fnExactFirstBicycleSpec)

/-- ITS FALSE NEIGHBOUR: 'it returns false'. Refute it at one input. -/
def fnExactFirstBicycleWrong : ChangeSpec := { name := "fnExactFirstBicycle", fn := fun _ => fun
  | [d1, d2, d3] => { results := [.lit (.bool false)], args := [d1, d2, d3] }
  | _ => none }
def FnExactFirstBicycleWrongFalsely : Prop := fnExactFirstBicycleRow.holds Try.pinned (OpenSpec.ofChange fnExactFirstBicycleWrong)

/-- 'laws.FnExactCheapestBicycle': WHATEVER THE INPUT: true; the input reads as it did. -/
def fnExactCheapestBicycleSpec : ChangeSpec := { name := "fnExactCheapestBicycle", fn := fun _ => fun
  | [d1, d2] => { results := [.lit (.bool true)], args := [d1, d2] }
  | _ => none }
def fnExactCheapestBicycleRow : OpenClaim := { program := "ytjkphegjefjfbaa", sum := "cff8c702c04da990b0708eb239baf8507355822799d3f06a9e30ad38f2ad0c32", func := "loop.example/g01050/laws.FnExactCheapestBicycle", spec := "fnExactCheapestBicycle", recurses := true, apart := false }
def FnExactCheapestBicycleSaid : Prop := fnExactCheapestBicycleRow.holds Try.pinned (OpenSpec.ofChange fnExactCheapestBicycleSpec)

/-- ITS FALSE NEIGHBOUR: 'it returns false'. Refute it at one input. -/
def fnExactCheapestBicycleWrong : ChangeSpec := { name := "fnExactCheapestBicycle", fn := fun _ => fun
  | [d1, d2] => { results := [.lit (.bool false)], args := [d1, d2] }
  | _ => none }
def FnExactCheapestBicycleWrongFalsely : Prop := fnExactCheapestBicycleRow.holds Try.pinned (OpenSpec.ofChange fnExactCheapestBicycleWrong)

/-- 'laws.FnExactLightestBicycle': WHATEVER THE INPUT: true; the input reads as it did. -/
def fnExactLightestBicycleSpec : ChangeSpec := { name := "fnExactLightestBicycle", fn := fun _ => fun
  | [d1, d2, d3] => { results := [.lit (.bool true)], args := [d1, d2, d3] }
  | _ => none }
def fnExactLightestBicycleRow : OpenClaim := { program := "ytjkphegjefjfbaa", sum := "cff8c702c04da990b0708eb239baf8507355822799d3f06a9e30ad38f2ad0c32", func := "loop.example/g01050/laws.FnExactLightestBicycle", spec := "fnExactLightestBicycle", recurses := true, apart := false }
def FnExactLightestBicycleSaid : Prop := fnExactLightestBicycleRow.holds Try.pinned (OpenSpec.ofChange fnExactLightestBicycleSpec)

/-- ITS FALSE NEIGHBOUR: 'it returns false'. Refute it at one input. -/
def fnExactLightestBicycleWrong : ChangeSpec := { name := "fnExactLightestBicycle", fn := fun _ => fun
  | [d1, d2, d3] => { results := [.lit (.bool false)], args := [d1, d2, d3] }
  | _ => none }
def FnExactLightestBicycleWrongFalsely : Prop := fnExactLightestBicycleRow.holds Try.pinned (OpenSpec.ofChange fnExactLightestBicycleWrong)

/-- 'laws.FnExactUsableParts': WHATEVER THE INPUT: true; the input reads as it did. -/
def fnExactUsablePartsSpec : ChangeSpec := { name := "fnExactUsableParts", fn := fun _ => fun
  | [d1, d2] => { results := [.lit (.bool true)], args := [d1, d2] }
  | _ => none }
def fnExactUsablePartsRow : OpenClaim := { program := "ytjkphegjefjfbaa", sum := "cff8c702c04da990b0708eb239baf8507355822799d3f06a9e30ad38f2ad0c32", func := "loop.example/g01050/laws.FnExactUsableParts", spec := "fnExactUsableParts", recurses := true, apart := false }
def FnExactUsablePartsSaid : Prop := fnExactUsablePartsRow.holds Try.pinned (OpenSpec.ofChange fnExactUsablePartsSpec)

/-- ITS FALSE NEIGHBOUR: 'it returns false'. Refute it at one input. -/
def fnExactUsablePartsWrong : ChangeSpec := { name := "fnExactUsableParts", fn := fun _ => fun
  | [d1, d2] => { results := [.lit (.bool false)], args := [d1, d2] }
  | _ => none }
def FnExactUsablePartsWrongFalsely : Prop := fnExactUsablePartsRow.holds Try.pinned (OpenSpec.ofChange fnExactUsablePartsWrong)

/-- 'laws.FnExactNeededParts': WHATEVER THE INPUT: true; the input reads as it did. -/
def fnExactNeededPartsSpec : ChangeSpec := { name := "fnExactNeededParts", fn := fun _ => fun
  | [d1, d2] => { results := [.lit (.bool true)], args := [d1, d2] }
  | _ => none }
def fnExactNeededPartsRow : OpenClaim := { program := "ytjkphegjefjfbaa", sum := "cff8c702c04da990b0708eb239baf8507355822799d3f06a9e30ad38f2ad0c32", func := "loop.example/g01050/laws.FnExactNeededParts", spec := "fnExactNeededParts", recurses := true, apart := false }
def FnExactNeededPartsSaid : Prop := fnExactNeededPartsRow.holds Try.pinned (OpenSpec.ofChange fnExactNeededPartsSpec)

/-- ITS FALSE NEIGHBOUR: 'it returns false'. Refute it at one input. -/
def fnExactNeededPartsWrong : ChangeSpec := { name := "fnExactNeededParts", fn := fun _ => fun
  | [d1, d2] => { results := [.lit (.bool false)], args := [d1, d2] }
  | _ => none }
def FnExactNeededPartsWrongFalsely : Prop := fnExactNeededPartsRow.holds Try.pinned (OpenSpec.ofChange fnExactNeededPartsWrong)

/-- 'laws.FnExactCheapestWith': WHATEVER THE INPUT: true; the input reads as it did. -/
def fnExactCheapestWithSpec : ChangeSpec := { name := "fnExactCheapestWith", fn := fun _ => fun
  | [d1, d2, d3] => { results := [.lit (.bool true)], args := [d1, d2, d3] }
  | _ => none }
def fnExactCheapestWithRow : OpenClaim := { program := "ytjkphegjefjfbaa", sum := "cff8c702c04da990b0708eb239baf8507355822799d3f06a9e30ad38f2ad0c32", func := "loop.example/g01050/laws.FnExactCheapestWith", spec := "fnExactCheapestWith", recurses := true, apart := false }
def FnExactCheapestWithSaid : Prop := fnExactCheapestWithRow.holds Try.pinned (OpenSpec.ofChange fnExactCheapestWithSpec)

/-- ITS FALSE NEIGHBOUR: 'it returns false'. Refute it at one input. -/
def fnExactCheapestWithWrong : ChangeSpec := { name := "fnExactCheapestWith", fn := fun _ => fun
  | [d1, d2, d3] => { results := [.lit (.bool false)], args := [d1, d2, d3] }
  | _ => none }
def FnExactCheapestWithWrongFalsely : Prop := fnExactCheapestWithRow.holds Try.pinned (OpenSpec.ofChange fnExactCheapestWithWrong)

/-- 'laws.FnExactFrontier': WHATEVER THE INPUT: true; the input reads as it did. -/
def fnExactFrontierSpec : ChangeSpec := { name := "fnExactFrontier", fn := fun _ => fun
  | [d1, d2] => { results := [.lit (.bool true)], args := [d1, d2] }
  | _ => none }
def fnExactFrontierRow : OpenClaim := { program := "ytjkphegjefjfbaa", sum := "cff8c702c04da990b0708eb239baf8507355822799d3f06a9e30ad38f2ad0c32", func := "loop.example/g01050/laws.FnExactFrontier", spec := "fnExactFrontier", recurses := true, apart := false }
def FnExactFrontierSaid : Prop := fnExactFrontierRow.holds Try.pinned (OpenSpec.ofChange fnExactFrontierSpec)

/-- ITS FALSE NEIGHBOUR: 'it returns false'. Refute it at one input. -/
def fnExactFrontierWrong : ChangeSpec := { name := "fnExactFrontier", fn := fun _ => fun
  | [d1, d2] => { results := [.lit (.bool false)], args := [d1, d2] }
  | _ => none }
def FnExactFrontierWrongFalsely : Prop := fnExactFrontierRow.holds Try.pinned (OpenSpec.ofChange fnExactFrontierWrong)

/-- 'laws.FnBicycles': WHATEVER THE INPUT: true; the input reads as it did. -/
def fnBicyclesSpec : ChangeSpec := { name := "fnBicycles", fn := fun _ => fun
  | [d] => { results := [.lit (.bool true)], args := [d] }
  | _ => none }
def fnBicyclesRow : OpenClaim := { program := "ytjkphegjefjfbaa", sum := "cff8c702c04da990b0708eb239baf8507355822799d3f06a9e30ad38f2ad0c32", func := "loop.example/g01050/laws.FnBicycles", spec := "fnBicycles", recurses := true, apart := false }
def FnBicyclesSaid : Prop := fnBicyclesRow.holds Try.pinned (OpenSpec.ofChange fnBicyclesSpec)

/-- ITS FALSE NEIGHBOUR: 'it returns false'. Refute it at one input. -/
def fnBicyclesWrong : ChangeSpec := { name := "fnBicycles", fn := fun _ => fun
  | [d] => { results := [.lit (.bool false)], args := [d] }
  | _ => none }
def FnBicyclesWrongFalsely : Prop := fnBicyclesRow.holds Try.pinned (OpenSpec.ofChange fnBicyclesWrong)

/-- 'laws.FnSearches': WHATEVER THE INPUT: true; the input reads as it did. -/
def fnSearchesSpec : ChangeSpec := { name := "fnSearches", fn := fun _ => fun
  | [d] => { results := [.lit (.bool true)], args := [d] }
  | _ => none }
def fnSearchesRow : OpenClaim := { program := "ytjkphegjefjfbaa", sum := "cff8c702c04da990b0708eb239baf8507355822799d3f06a9e30ad38f2ad0c32", func := "loop.example/g01050/laws.FnSearches", spec := "fnSearches", recurses := true, apart := false }
def FnSearchesSaid : Prop := fnSearchesRow.holds Try.pinned (OpenSpec.ofChange fnSearchesSpec)

/-- ITS FALSE NEIGHBOUR: 'it returns false'. Refute it at one input. -/
def fnSearchesWrong : ChangeSpec := { name := "fnSearches", fn := fun _ => fun
  | [d] => { results := [.lit (.bool false)], args := [d] }
  | _ => none }
def FnSearchesWrongFalsely : Prop := fnSearchesRow.holds Try.pinned (OpenSpec.ofChange fnSearchesWrong)

/-- 'laws.FnFrontier': WHATEVER THE INPUT: true; the input reads as it did. -/
def fnFrontierSpec : ChangeSpec := { name := "fnFrontier", fn := fun _ => fun
  | [d] => { results := [.lit (.bool true)], args := [d] }
  | _ => none }
def fnFrontierRow : OpenClaim := { program := "ytjkphegjefjfbaa", sum := "cff8c702c04da990b0708eb239baf8507355822799d3f06a9e30ad38f2ad0c32", func := "loop.example/g01050/laws.FnFrontier", spec := "fnFrontier", recurses := true, apart := false }
def FnFrontierSaid : Prop := fnFrontierRow.holds Try.pinned (OpenSpec.ofChange fnFrontierSpec)

/-- ITS FALSE NEIGHBOUR: 'it returns false'. Refute it at one input. -/
def fnFrontierWrong : ChangeSpec := { name := "fnFrontier", fn := fun _ => fun
  | [d] => { results := [.lit (.bool false)], args := [d] }
  | _ => none }
def FnFrontierWrongFalsely : Prop := fnFrontierRow.holds Try.pinned (OpenSpec.ofChange fnFrontierWrong)

/- THE SECOND FORM. 'bulk': how many values and letters a reading holds, each counted each time it is reached (what is shared counts as often as it is met; a slice's spare places count too). A statement '..UptoSaid' is the law's where the arguments, and the package variables that the reading takes, are together of bulk at most 1048576: NARROWER than '..Said'. Prove '..Said' where nothing that the law and all that it calls make is longer than what came in: it says more and counts as full. Else prove '..UptoSaid'. A law counts once. -/
mutual
def uptoBulk {H : Type} : DataW H → Nat
  | .lit (.string bytes) => bytes.length + 1
  | .lit _ => 1
  | .nil => 1
  | .ptr d => uptoBulk d + 1
  | .slice elems spare => uptoBulkAll elems + uptoBulkAll spare + 1
  | .agg parts => uptoBulkAll parts + 1
  | .iface _ d => uptoBulk d + 1
  | .map entries => uptoBulkEntries entries + 1
  | .held _ => 1
def uptoBulkAll {H : Type} : List (DataW H) → Nat
  | [] => 0
  | d :: r => uptoBulk d + uptoBulkAll r
def uptoBulkEntries {H : Type} : List (Lit × DataW H) → Nat
  | [] => 0
  | x :: r => uptoBulkEntry x + uptoBulkEntries r
def uptoBulkEntry {H : Type} : Lit × DataW H → Nat
  | (.string bytes, d) => bytes.length + uptoBulk d + 1
  | (_, d) => uptoBulk d + 1
 end
def uptoSmall : (H : Type) → List (DataW H) → Bool := fun _ ds => decide (uptoBulkAll ds ≤ 1048576)
def OpenSpec.upto (s : _root_.Go.ChangeSpec) : _root_.Go.OpenSpec := { _root_.Go.OpenSpec.ofChange s with cond := some uptoSmall }

/-- 'laws.FnExactCountBicycles', WHERE WHAT IT READS IS OF BULK AT MOST 1048576: true; the input reads as it did. -/
def fnExactCountBicyclesUptoRow : OpenClaim := { program := "ytjkphegjefjfbaa", sum := "cff8c702c04da990b0708eb239baf8507355822799d3f06a9e30ad38f2ad0c32", func := "loop.example/g01050/laws.FnExactCountBicycles", spec := "fnExactCountBicycles", recurses := true, apart := false, narrowed := true }
def FnExactCountBicyclesUptoSaid : Prop := fnExactCountBicyclesUptoRow.holds Try.pinned (OpenSpec.upto fnExactCountBicyclesSpec)

/-- 'laws.FnExactCountNodes', WHERE WHAT IT READS IS OF BULK AT MOST 1048576: true; the input reads as it did. -/
def fnExactCountNodesUptoRow : OpenClaim := { program := "ytjkphegjefjfbaa", sum := "cff8c702c04da990b0708eb239baf8507355822799d3f06a9e30ad38f2ad0c32", func := "loop.example/g01050/laws.FnExactCountNodes", spec := "fnExactCountNodes", recurses := true, apart := false, narrowed := true }
def FnExactCountNodesUptoSaid : Prop := fnExactCountNodesUptoRow.holds Try.pinned (OpenSpec.upto fnExactCountNodesSpec)

/-- 'laws.FnExactFirstBicycle', WHERE WHAT IT READS IS OF BULK AT MOST 1048576: true; the input reads as it did. -/
def fnExactFirstBicycleUptoRow : OpenClaim := { program := "ytjkphegjefjfbaa", sum := "cff8c702c04da990b0708eb239baf8507355822799d3f06a9e30ad38f2ad0c32", func := "loop.example/g01050/laws.FnExactFirstBicycle", spec := "fnExactFirstBicycle", recurses := true, apart := false, narrowed := true }
def FnExactFirstBicycleUptoSaid : Prop := fnExactFirstBicycleUptoRow.holds Try.pinned (OpenSpec.upto fnExactFirstBicycleSpec)

/-- 'laws.FnExactCheapestBicycle', WHERE WHAT IT READS IS OF BULK AT MOST 1048576: true; the input reads as it did. -/
def fnExactCheapestBicycleUptoRow : OpenClaim := { program := "ytjkphegjefjfbaa", sum := "cff8c702c04da990b0708eb239baf8507355822799d3f06a9e30ad38f2ad0c32", func := "loop.example/g01050/laws.FnExactCheapestBicycle", spec := "fnExactCheapestBicycle", recurses := true, apart := false, narrowed := true }
def FnExactCheapestBicycleUptoSaid : Prop := fnExactCheapestBicycleUptoRow.holds Try.pinned (OpenSpec.upto fnExactCheapestBicycleSpec)

/-- 'laws.FnExactLightestBicycle', WHERE WHAT IT READS IS OF BULK AT MOST 1048576: true; the input reads as it did. -/
def fnExactLightestBicycleUptoRow : OpenClaim := { program := "ytjkphegjefjfbaa", sum := "cff8c702c04da990b0708eb239baf8507355822799d3f06a9e30ad38f2ad0c32", func := "loop.example/g01050/laws.FnExactLightestBicycle", spec := "fnExactLightestBicycle", recurses := true, apart := false, narrowed := true }
def FnExactLightestBicycleUptoSaid : Prop := fnExactLightestBicycleUptoRow.holds Try.pinned (OpenSpec.upto fnExactLightestBicycleSpec)

/-- 'laws.FnExactUsableParts', WHERE WHAT IT READS IS OF BULK AT MOST 1048576: true; the input reads as it did. -/
def fnExactUsablePartsUptoRow : OpenClaim := { program := "ytjkphegjefjfbaa", sum := "cff8c702c04da990b0708eb239baf8507355822799d3f06a9e30ad38f2ad0c32", func := "loop.example/g01050/laws.FnExactUsableParts", spec := "fnExactUsableParts", recurses := true, apart := false, narrowed := true }
def FnExactUsablePartsUptoSaid : Prop := fnExactUsablePartsUptoRow.holds Try.pinned (OpenSpec.upto fnExactUsablePartsSpec)

/-- 'laws.FnExactNeededParts', WHERE WHAT IT READS IS OF BULK AT MOST 1048576: true; the input reads as it did. -/
def fnExactNeededPartsUptoRow : OpenClaim := { program := "ytjkphegjefjfbaa", sum := "cff8c702c04da990b0708eb239baf8507355822799d3f06a9e30ad38f2ad0c32", func := "loop.example/g01050/laws.FnExactNeededParts", spec := "fnExactNeededParts", recurses := true, apart := false, narrowed := true }
def FnExactNeededPartsUptoSaid : Prop := fnExactNeededPartsUptoRow.holds Try.pinned (OpenSpec.upto fnExactNeededPartsSpec)

/-- 'laws.FnExactCheapestWith', WHERE WHAT IT READS IS OF BULK AT MOST 1048576: true; the input reads as it did. -/
def fnExactCheapestWithUptoRow : OpenClaim := { program := "ytjkphegjefjfbaa", sum := "cff8c702c04da990b0708eb239baf8507355822799d3f06a9e30ad38f2ad0c32", func := "loop.example/g01050/laws.FnExactCheapestWith", spec := "fnExactCheapestWith", recurses := true, apart := false, narrowed := true }
def FnExactCheapestWithUptoSaid : Prop := fnExactCheapestWithUptoRow.holds Try.pinned (OpenSpec.upto fnExactCheapestWithSpec)

/-- 'laws.FnExactFrontier', WHERE WHAT IT READS IS OF BULK AT MOST 1048576: true; the input reads as it did. -/
def fnExactFrontierUptoRow : OpenClaim := { program := "ytjkphegjefjfbaa", sum := "cff8c702c04da990b0708eb239baf8507355822799d3f06a9e30ad38f2ad0c32", func := "loop.example/g01050/laws.FnExactFrontier", spec := "fnExactFrontier", recurses := true, apart := false, narrowed := true }
def FnExactFrontierUptoSaid : Prop := fnExactFrontierUptoRow.holds Try.pinned (OpenSpec.upto fnExactFrontierSpec)

/-- 'laws.FnBicycles', WHERE WHAT IT READS IS OF BULK AT MOST 1048576: true; the input reads as it did. -/
def fnBicyclesUptoRow : OpenClaim := { program := "ytjkphegjefjfbaa", sum := "cff8c702c04da990b0708eb239baf8507355822799d3f06a9e30ad38f2ad0c32", func := "loop.example/g01050/laws.FnBicycles", spec := "fnBicycles", recurses := true, apart := false, narrowed := true }
def FnBicyclesUptoSaid : Prop := fnBicyclesUptoRow.holds Try.pinned (OpenSpec.upto fnBicyclesSpec)

/-- 'laws.FnSearches', WHERE WHAT IT READS IS OF BULK AT MOST 1048576: true; the input reads as it did. -/
def fnSearchesUptoRow : OpenClaim := { program := "ytjkphegjefjfbaa", sum := "cff8c702c04da990b0708eb239baf8507355822799d3f06a9e30ad38f2ad0c32", func := "loop.example/g01050/laws.FnSearches", spec := "fnSearches", recurses := true, apart := false, narrowed := true }
def FnSearchesUptoSaid : Prop := fnSearchesUptoRow.holds Try.pinned (OpenSpec.upto fnSearchesSpec)

/-- 'laws.FnFrontier', WHERE WHAT IT READS IS OF BULK AT MOST 1048576: true; the input reads as it did. -/
def fnFrontierUptoRow : OpenClaim := { program := "ytjkphegjefjfbaa", sum := "cff8c702c04da990b0708eb239baf8507355822799d3f06a9e30ad38f2ad0c32", func := "loop.example/g01050/laws.FnFrontier", spec := "fnFrontier", recurses := true, apart := false, narrowed := true }
def FnFrontierUptoSaid : Prop := fnFrontierUptoRow.holds Try.pinned (OpenSpec.upto fnFrontierSpec)

end Rows
end Go.Proofs.Ytjkphegjefjfbaa
