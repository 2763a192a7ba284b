/-
  No cell of these rows narrows 'for every input' (looked for: loops, veiled, ifaces, maps, wideKeys, modest, calm, conditions, laid).
  DERIVED. THE GIVEN ROWS OF THIS SEAT. 11 by the template 'for every input the law returns true; each argument reads behind the call as it read before'; 0 by the template 'total and deterministic' (their statements: YtphkmlgifhggnaaTotals.lean).
  GIVEN WITH THE SEED: the statements are not yours to turn. If you find one false, say at which input.
  Laid BY PROGRAM, IN A SANDBOX (cutbox-rows.mjs): the forced cells as the released guide's own fill.sh prints them over the translation eef87785293ac58f… (all of the seat's roots in one cut). By AI agents, Wed Nov 11 2026. No macro, syntax, notation, axiom, sorry.
-/
import Derived.Test.YtphkmlgifhggnaaChecked
import GoSem.Claim
import GoSem.ClaimJoined
import GoSem.ClaimMapViews
import Derived.JoinedTies
import Derived.KernelRfl
namespace Go.Proofs.Ytphkmlgifhggnaa
/- THE CELL 'sum', in the pinned program and in every row, IS THE sha256 OF THE DUMP (.gsa) THAT YtphkmlgifhggnaaProg.lean LOADS. Nothing in Lean hashes anything: it is a label: what it is worth is what the hold of that sum in a sandbox is worth. -/
noncomputable def Try.pinned : Pinned := { name := "ytphkmlgifhggnaa", sum := "eef87785293ac58f33c1ef008f6876226ee4b34171be2593dc8f342eaf25b7bc", checked := Try.checked }
namespace Rows
def none {H : Type} : Left H := { results := [], args := [] }

/-- 'laws.FnExactIsBuild': WHATEVER THE INPUT: true; the input reads as it did. -/
def fnExactIsBuildSpec : ChangeSpec := { name := "fnExactIsBuild", fn := fun _ => fun
  | [d1, d2] => { results := [.lit (.bool true)], args := [d1, d2] }
  | _ => none }
def fnExactIsBuildRow : OpenClaim := { program := "ytphkmlgifhggnaa", sum := "eef87785293ac58f33c1ef008f6876226ee4b34171be2593dc8f342eaf25b7bc", func := "loop.example/g01050/laws.FnExactIsBuild", spec := "fnExactIsBuild", apart := false }
def FnExactIsBuildSaid : Prop := fnExactIsBuildRow.holds Try.pinned (OpenSpec.ofChange fnExactIsBuildSpec)

/-- ITS FALSE NEIGHBOUR: 'it returns false'. Refute it at one input. -/
def fnExactIsBuildWrong : ChangeSpec := { name := "fnExactIsBuild", fn := fun _ => fun
  | [d1, d2] => { results := [.lit (.bool false)], args := [d1, d2] }
  | _ => none }
def FnExactIsBuildWrongFalsely : Prop := fnExactIsBuildRow.holds Try.pinned (OpenSpec.ofChange fnExactIsBuildWrong)

/-- 'laws.FnExactPutPart': WHATEVER THE INPUT: true; the input reads as it did. -/
def fnExactPutPartSpec : ChangeSpec := { name := "fnExactPutPart", fn := fun _ => fun
  | [d1, d2, d3] => { results := [.lit (.bool true)], args := [d1, d2, d3] }
  | _ => none }
def fnExactPutPartRow : OpenClaim := { program := "ytphkmlgifhggnaa", sum := "eef87785293ac58f33c1ef008f6876226ee4b34171be2593dc8f342eaf25b7bc", func := "loop.example/g01050/laws.FnExactPutPart", spec := "fnExactPutPart", apart := false }
def FnExactPutPartSaid : Prop := fnExactPutPartRow.holds Try.pinned (OpenSpec.ofChange fnExactPutPartSpec)

/-- ITS FALSE NEIGHBOUR: 'it returns false'. Refute it at one input. -/
def fnExactPutPartWrong : ChangeSpec := { name := "fnExactPutPart", fn := fun _ => fun
  | [d1, d2, d3] => { results := [.lit (.bool false)], args := [d1, d2, d3] }
  | _ => none }
def FnExactPutPartWrongFalsely : Prop := fnExactPutPartRow.holds Try.pinned (OpenSpec.ofChange fnExactPutPartWrong)

/-- 'laws.FnExactTakePart': WHATEVER THE INPUT: true; the input reads as it did. -/
def fnExactTakePartSpec : ChangeSpec := { name := "fnExactTakePart", fn := fun _ => fun
  | [d1, d2, d3] => { results := [.lit (.bool true)], args := [d1, d2, d3] }
  | _ => none }
def fnExactTakePartRow : OpenClaim := { program := "ytphkmlgifhggnaa", sum := "eef87785293ac58f33c1ef008f6876226ee4b34171be2593dc8f342eaf25b7bc", func := "loop.example/g01050/laws.FnExactTakePart", spec := "fnExactTakePart", apart := false }
def FnExactTakePartSaid : Prop := fnExactTakePartRow.holds Try.pinned (OpenSpec.ofChange fnExactTakePartSpec)

/-- ITS FALSE NEIGHBOUR: 'it returns false'. Refute it at one input. -/
def fnExactTakePartWrong : ChangeSpec := { name := "fnExactTakePart", fn := fun _ => fun
  | [d1, d2, d3] => { results := [.lit (.bool false)], args := [d1, d2, d3] }
  | _ => none }
def FnExactTakePartWrongFalsely : Prop := fnExactTakePartRow.holds Try.pinned (OpenSpec.ofChange fnExactTakePartWrong)

/-- 'laws.FnExactBrokenJoints': WHATEVER THE INPUT: true; the input reads as it did. -/
def fnExactBrokenJointsSpec : ChangeSpec := { name := "fnExactBrokenJoints", fn := fun _ => fun
  | [d1, d2, d3] => { results := [.lit (.bool true)], args := [d1, d2, d3] }
  | _ => none }
def fnExactBrokenJointsRow : OpenClaim := { program := "ytphkmlgifhggnaa", sum := "eef87785293ac58f33c1ef008f6876226ee4b34171be2593dc8f342eaf25b7bc", func := "loop.example/g01050/laws.FnExactBrokenJoints", spec := "fnExactBrokenJoints", apart := false }
def FnExactBrokenJointsSaid : Prop := fnExactBrokenJointsRow.holds Try.pinned (OpenSpec.ofChange fnExactBrokenJointsSpec)

/-- ITS FALSE NEIGHBOUR: 'it returns false'. Refute it at one input. -/
def fnExactBrokenJointsWrong : ChangeSpec := { name := "fnExactBrokenJoints", fn := fun _ => fun
  | [d1, d2, d3] => { results := [.lit (.bool false)], args := [d1, d2, d3] }
  | _ => none }
def FnExactBrokenJointsWrongFalsely : Prop := fnExactBrokenJointsRow.holds Try.pinned (OpenSpec.ofChange fnExactBrokenJointsWrong)

/-- 'laws.FnExactOpenJoints': WHATEVER THE INPUT: true; the input reads as it did. -/
def fnExactOpenJointsSpec : ChangeSpec := { name := "fnExactOpenJoints", fn := fun _ => fun
  | [d1, d2, d3] => { results := [.lit (.bool true)], args := [d1, d2, d3] }
  | _ => none }
def fnExactOpenJointsRow : OpenClaim := { program := "ytphkmlgifhggnaa", sum := "eef87785293ac58f33c1ef008f6876226ee4b34171be2593dc8f342eaf25b7bc", func := "loop.example/g01050/laws.FnExactOpenJoints", spec := "fnExactOpenJoints", apart := false }
def FnExactOpenJointsSaid : Prop := fnExactOpenJointsRow.holds Try.pinned (OpenSpec.ofChange fnExactOpenJointsSpec)

/-- ITS FALSE NEIGHBOUR: 'it returns false'. Refute it at one input. -/
def fnExactOpenJointsWrong : ChangeSpec := { name := "fnExactOpenJoints", fn := fun _ => fun
  | [d1, d2, d3] => { results := [.lit (.bool false)], args := [d1, d2, d3] }
  | _ => none }
def FnExactOpenJointsWrongFalsely : Prop := fnExactOpenJointsRow.holds Try.pinned (OpenSpec.ofChange fnExactOpenJointsWrong)

/-- 'laws.FnExactIsSound': WHATEVER THE INPUT: true; the input reads as it did. -/
def fnExactIsSoundSpec : ChangeSpec := { name := "fnExactIsSound", fn := fun _ => fun
  | [d1, d2, d3] => { results := [.lit (.bool true)], args := [d1, d2, d3] }
  | _ => none }
def fnExactIsSoundRow : OpenClaim := { program := "ytphkmlgifhggnaa", sum := "eef87785293ac58f33c1ef008f6876226ee4b34171be2593dc8f342eaf25b7bc", func := "loop.example/g01050/laws.FnExactIsSound", spec := "fnExactIsSound", apart := false }
def FnExactIsSoundSaid : Prop := fnExactIsSoundRow.holds Try.pinned (OpenSpec.ofChange fnExactIsSoundSpec)

/-- ITS FALSE NEIGHBOUR: 'it returns false'. Refute it at one input. -/
def fnExactIsSoundWrong : ChangeSpec := { name := "fnExactIsSound", fn := fun _ => fun
  | [d1, d2, d3] => { results := [.lit (.bool false)], args := [d1, d2, d3] }
  | _ => none }
def FnExactIsSoundWrongFalsely : Prop := fnExactIsSoundRow.holds Try.pinned (OpenSpec.ofChange fnExactIsSoundWrong)

/-- 'laws.FnExactPriceOf': WHATEVER THE INPUT: true; the input reads as it did. -/
def fnExactPriceOfSpec : ChangeSpec := { name := "fnExactPriceOf", fn := fun _ => fun
  | [d1, d2] => { results := [.lit (.bool true)], args := [d1, d2] }
  | _ => none }
def fnExactPriceOfRow : OpenClaim := { program := "ytphkmlgifhggnaa", sum := "eef87785293ac58f33c1ef008f6876226ee4b34171be2593dc8f342eaf25b7bc", func := "loop.example/g01050/laws.FnExactPriceOf", spec := "fnExactPriceOf", apart := false }
def FnExactPriceOfSaid : Prop := fnExactPriceOfRow.holds Try.pinned (OpenSpec.ofChange fnExactPriceOfSpec)

/-- ITS FALSE NEIGHBOUR: 'it returns false'. Refute it at one input. -/
def fnExactPriceOfWrong : ChangeSpec := { name := "fnExactPriceOf", fn := fun _ => fun
  | [d1, d2] => { results := [.lit (.bool false)], args := [d1, d2] }
  | _ => none }
def FnExactPriceOfWrongFalsely : Prop := fnExactPriceOfRow.holds Try.pinned (OpenSpec.ofChange fnExactPriceOfWrong)

/-- 'laws.FnExactGramsOf': WHATEVER THE INPUT: true; the input reads as it did. -/
def fnExactGramsOfSpec : ChangeSpec := { name := "fnExactGramsOf", fn := fun _ => fun
  | [d1, d2] => { results := [.lit (.bool true)], args := [d1, d2] }
  | _ => none }
def fnExactGramsOfRow : OpenClaim := { program := "ytphkmlgifhggnaa", sum := "eef87785293ac58f33c1ef008f6876226ee4b34171be2593dc8f342eaf25b7bc", func := "loop.example/g01050/laws.FnExactGramsOf", spec := "fnExactGramsOf", apart := false }
def FnExactGramsOfSaid : Prop := fnExactGramsOfRow.holds Try.pinned (OpenSpec.ofChange fnExactGramsOfSpec)

/-- ITS FALSE NEIGHBOUR: 'it returns false'. Refute it at one input. -/
def fnExactGramsOfWrong : ChangeSpec := { name := "fnExactGramsOf", fn := fun _ => fun
  | [d1, d2] => { results := [.lit (.bool false)], args := [d1, d2] }
  | _ => none }
def FnExactGramsOfWrongFalsely : Prop := fnExactGramsOfRow.holds Try.pinned (OpenSpec.ofChange fnExactGramsOfWrong)

/-- 'laws.FnExactFittingParts': WHATEVER THE INPUT: true; the input reads as it did. -/
def fnExactFittingPartsSpec : ChangeSpec := { name := "fnExactFittingParts", fn := fun _ => fun
  | [d1, d2, d3, d4] => { results := [.lit (.bool true)], args := [d1, d2, d3, d4] }
  | _ => none }
def fnExactFittingPartsRow : OpenClaim := { program := "ytphkmlgifhggnaa", sum := "eef87785293ac58f33c1ef008f6876226ee4b34171be2593dc8f342eaf25b7bc", func := "loop.example/g01050/laws.FnExactFittingParts", spec := "fnExactFittingParts", apart := false }
def FnExactFittingPartsSaid : Prop := fnExactFittingPartsRow.holds Try.pinned (OpenSpec.ofChange fnExactFittingPartsSpec)

/-- ITS FALSE NEIGHBOUR: 'it returns false'. Refute it at one input. -/
def fnExactFittingPartsWrong : ChangeSpec := { name := "fnExactFittingParts", fn := fun _ => fun
  | [d1, d2, d3, d4] => { results := [.lit (.bool false)], args := [d1, d2, d3, d4] }
  | _ => none }
def FnExactFittingPartsWrongFalsely : Prop := fnExactFittingPartsRow.holds Try.pinned (OpenSpec.ofChange fnExactFittingPartsWrong)

/-- 'laws.FnBuilds': WHATEVER THE INPUT: true; the input reads as it did. -/
def fnBuildsSpec : ChangeSpec := { name := "fnBuilds", fn := fun _ => fun
  | [d] => { results := [.lit (.bool true)], args := [d] }
  | _ => none }
def fnBuildsRow : OpenClaim := { program := "ytphkmlgifhggnaa", sum := "eef87785293ac58f33c1ef008f6876226ee4b34171be2593dc8f342eaf25b7bc", func := "loop.example/g01050/laws.FnBuilds", spec := "fnBuilds", apart := false }
def FnBuildsSaid : Prop := fnBuildsRow.holds Try.pinned (OpenSpec.ofChange fnBuildsSpec)

/-- ITS FALSE NEIGHBOUR: 'it returns false'. Refute it at one input. -/
def fnBuildsWrong : ChangeSpec := { name := "fnBuilds", fn := fun _ => fun
  | [d] => { results := [.lit (.bool false)], args := [d] }
  | _ => none }
def FnBuildsWrongFalsely : Prop := fnBuildsRow.holds Try.pinned (OpenSpec.ofChange fnBuildsWrong)

/-- 'laws.FnJoints': WHATEVER THE INPUT: true; the input reads as it did. -/
def fnJointsSpec : ChangeSpec := { name := "fnJoints", fn := fun _ => fun
  | [d] => { results := [.lit (.bool true)], args := [d] }
  | _ => none }
def fnJointsRow : OpenClaim := { program := "ytphkmlgifhggnaa", sum := "eef87785293ac58f33c1ef008f6876226ee4b34171be2593dc8f342eaf25b7bc", func := "loop.example/g01050/laws.FnJoints", spec := "fnJoints", apart := false }
def FnJointsSaid : Prop := fnJointsRow.holds Try.pinned (OpenSpec.ofChange fnJointsSpec)

/-- ITS FALSE NEIGHBOUR: 'it returns false'. Refute it at one input. -/
def fnJointsWrong : ChangeSpec := { name := "fnJoints", fn := fun _ => fun
  | [d] => { results := [.lit (.bool false)], args := [d] }
  | _ => none }
def FnJointsWrongFalsely : Prop := fnJointsRow.holds Try.pinned (OpenSpec.ofChange fnJointsWrong)

/- THE SECOND FORM. 'bulk': how many values and letters a reading holds, each counted each time it is reached (what is shared counts as often as it is met; a slice's spare places count too). A statement '..UptoSaid' is the law's where the arguments, and the package variables that the reading takes, are together of bulk at most 1048576: NARROWER than '..Said'. Prove '..Said' where nothing that the law and all that it calls make is longer than what came in: it says more and counts as full. Else prove '..UptoSaid'. A law counts once. -/
mutual
def uptoBulk {H : Type} : DataW H → Nat
  | .lit (.string bytes) => bytes.length + 1
  | .lit _ => 1
  | .nil => 1
  | .ptr d => uptoBulk d + 1
  | .slice elems spare => uptoBulkAll elems + uptoBulkAll spare + 1
  | .agg parts => uptoBulkAll parts + 1
  | .iface _ d => uptoBulk d + 1
  | .map entries => uptoBulkEntries entries + 1
  | .held _ => 1
def uptoBulkAll {H : Type} : List (DataW H) → Nat
  | [] => 0
  | d :: r => uptoBulk d + uptoBulkAll r
def uptoBulkEntries {H : Type} : List (Lit × DataW H) → Nat
  | [] => 0
  | x :: r => uptoBulkEntry x + uptoBulkEntries r
def uptoBulkEntry {H : Type} : Lit × DataW H → Nat
  | (.string bytes, d) => bytes.length + uptoBulk d + 1
  | (_, d) => uptoBulk d + 1
 end
def uptoSmall : (H : Type) → List (DataW H) → Bool := fun _ ds => decide (uptoBulkAll ds ≤ 1048576)
def OpenSpec.upto (s : _root_.Go.ChangeSpec) : _root_.Go.OpenSpec := { _root_.Go.OpenSpec.ofChange s with cond := some uptoSmall }

/-- 'laws.FnExactIsBuild', WHERE WHAT IT READS IS OF BULK AT MOST 1048576: true; the input reads as it did. -/
def fnExactIsBuildUptoRow : OpenClaim := { program := "ytphkmlgifhggnaa", sum := "eef87785293ac58f33c1ef008f6876226ee4b34171be2593dc8f342eaf25b7bc", func := "loop.example/g01050/laws.FnExactIsBuild", spec := "fnExactIsBuild", apart := false, narrowed := true }
def FnExactIsBuildUptoSaid : Prop := fnExactIsBuildUptoRow.holds Try.pinned (OpenSpec.upto fnExactIsBuildSpec)

/-- 'laws.FnExactPutPart', WHERE WHAT IT READS IS OF BULK AT MOST 1048576: true; the input reads as it did. -/
def fnExactPutPartUptoRow : OpenClaim := { program := "ytphkmlgifhggnaa", sum := "eef87785293ac58f33c1ef008f6876226ee4b34171be2593dc8f342eaf25b7bc", func := "loop.example/g01050/laws.FnExactPutPart", spec := "fnExactPutPart", apart := false, narrowed := true }
def FnExactPutPartUptoSaid : Prop := fnExactPutPartUptoRow.holds Try.pinned (OpenSpec.upto fnExactPutPartSpec)

/-- 'laws.FnExactTakePart', WHERE WHAT IT READS IS OF BULK AT MOST 1048576: true; the input reads as it did. -/
def fnExactTakePartUptoRow : OpenClaim := { program := "ytphkmlgifhggnaa", sum := "eef87785293ac58f33c1ef008f6876226ee4b34171be2593dc8f342eaf25b7bc", func := "loop.example/g01050/laws.FnExactTakePart", spec := "fnExactTakePart", apart := false, narrowed := true }
def FnExactTakePartUptoSaid : Prop := fnExactTakePartUptoRow.holds Try.pinned (OpenSpec.upto fnExactTakePartSpec)

/-- 'laws.FnExactBrokenJoints', WHERE WHAT IT READS IS OF BULK AT MOST 1048576: true; the input reads as it did. -/
def fnExactBrokenJointsUptoRow : OpenClaim := { program := "ytphkmlgifhggnaa", sum := "eef87785293ac58f33c1ef008f6876226ee4b34171be2593dc8f342eaf25b7bc", func := "loop.example/g01050/laws.FnExactBrokenJoints", spec := "fnExactBrokenJoints", apart := false, narrowed := true }
def FnExactBrokenJointsUptoSaid : Prop := fnExactBrokenJointsUptoRow.holds Try.pinned (OpenSpec.upto fnExactBrokenJointsSpec)

/-- 'laws.FnExactOpenJoints', WHERE WHAT IT READS IS OF BULK AT MOST 1048576: true; the input reads as it did. -/
def fnExactOpenJointsUptoRow : OpenClaim := { program := "ytphkmlgifhggnaa", sum := "eef87785293ac58f33c1ef008f6876226ee4b34171be2593dc8f342eaf25b7bc", func := "loop.example/g01050/laws.FnExactOpenJoints", spec := "fnExactOpenJoints", apart := false, narrowed := true }
def FnExactOpenJointsUptoSaid : Prop := fnExactOpenJointsUptoRow.holds Try.pinned (OpenSpec.upto fnExactOpenJointsSpec)

/-- 'laws.FnExactIsSound', WHERE WHAT IT READS IS OF BULK AT MOST 1048576: true; the input reads as it did. -/
def fnExactIsSoundUptoRow : OpenClaim := { program := "ytphkmlgifhggnaa", sum := "eef87785293ac58f33c1ef008f6876226ee4b34171be2593dc8f342eaf25b7bc", func := "loop.example/g01050/laws.FnExactIsSound", spec := "fnExactIsSound", apart := false, narrowed := true }
def FnExactIsSoundUptoSaid : Prop := fnExactIsSoundUptoRow.holds Try.pinned (OpenSpec.upto fnExactIsSoundSpec)

/-- 'laws.FnExactPriceOf', WHERE WHAT IT READS IS OF BULK AT MOST 1048576: true; the input reads as it did. -/
def fnExactPriceOfUptoRow : OpenClaim := { program := "ytphkmlgifhggnaa", sum := "eef87785293ac58f33c1ef008f6876226ee4b34171be2593dc8f342eaf25b7bc", func := "loop.example/g01050/laws.FnExactPriceOf", spec := "fnExactPriceOf", apart := false, narrowed := true }
def FnExactPriceOfUptoSaid : Prop := fnExactPriceOfUptoRow.holds Try.pinned (OpenSpec.upto fnExactPriceOfSpec)

/-- 'laws.FnExactGramsOf', WHERE WHAT IT READS IS OF BULK AT MOST 1048576: true; the input reads as it did. -/
def fnExactGramsOfUptoRow : OpenClaim := { program := "ytphkmlgifhggnaa", sum := "eef87785293ac58f33c1ef008f6876226ee4b34171be2593dc8f342eaf25b7bc", func := "loop.example/g01050/laws.FnExactGramsOf", spec := "fnExactGramsOf", apart := false, narrowed := true }
def FnExactGramsOfUptoSaid : Prop := fnExactGramsOfUptoRow.holds Try.pinned (OpenSpec.upto fnExactGramsOfSpec)

/-- 'laws.FnExactFittingParts', WHERE WHAT IT READS IS OF BULK AT MOST 1048576: true; the input reads as it did. -/
def fnExactFittingPartsUptoRow : OpenClaim := { program := "ytphkmlgifhggnaa", sum := "eef87785293ac58f33c1ef008f6876226ee4b34171be2593dc8f342eaf25b7bc", func := "loop.example/g01050/laws.FnExactFittingParts", spec := "fnExactFittingParts", apart := false, narrowed := true }
def FnExactFittingPartsUptoSaid : Prop := fnExactFittingPartsUptoRow.holds Try.pinned (OpenSpec.upto fnExactFittingPartsSpec)

/-- 'laws.FnBuilds', WHERE WHAT IT READS IS OF BULK AT MOST 1048576: true; the input reads as it did. -/
def fnBuildsUptoRow : OpenClaim := { program := "ytphkmlgifhggnaa", sum := "eef87785293ac58f33c1ef008f6876226ee4b34171be2593dc8f342eaf25b7bc", func := "loop.example/g01050/laws.FnBuilds", spec := "fnBuilds", apart := false, narrowed := true }
def FnBuildsUptoSaid : Prop := fnBuildsUptoRow.holds Try.pinned (OpenSpec.upto fnBuildsSpec)

/-- 'laws.FnJoints', WHERE WHAT IT READS IS OF BULK AT MOST 1048576: true; the input reads as it did. -/
def fnJointsUptoRow : OpenClaim := { program := "ytphkmlgifhggnaa", sum := "eef87785293ac58f33c1ef008f6876226ee4b34171be2593dc8f342eaf25b7bc", func := "loop.example/g01050/laws.FnJoints", spec := "fnJoints", apart := false, narrowed := true }
def FnJointsUptoSaid : Prop := fnJointsUptoRow.holds Try.pinned (OpenSpec.upto fnJointsSpec)

end Rows
end Go.Proofs.Ytphkmlgifhggnaa
