/-
  No cell of these rows narrows 'for every input' (looked for: loops, veiled, ifaces, maps, wideKeys, modest, calm, conditions, laid).
  DERIVED. THE GIVEN ROWS OF THIS SEAT. 8 by the template 'for every input the law returns true; each argument reads behind the call as it read before'; 0 by the template 'total and deterministic' (their statements: YtmhaloigcpanpaaTotals.lean).
  GIVEN WITH THE SEED: the statements are not yours to turn. If you find one false, say at which input.
  Laid BY PROGRAM, IN A SANDBOX (cutbox-rows.mjs): the forced cells as the released guide's own fill.sh prints them over the translation be1a5e49ba7f28c9… (all of the seat's roots in one cut). By AI agents, Wed Nov 11 2026. No macro, syntax, notation, axiom, sorry.
-/
import Derived.Test.YtmhaloigcpanpaaChecked
import GoSem.Claim
import GoSem.ClaimJoined
import GoSem.ClaimMapViews
import Derived.JoinedTies
import Derived.KernelRfl
namespace Go.Proofs.Ytmhaloigcpanpaa
/- THE CELL 'sum', in the pinned program and in every row, IS THE sha256 OF THE DUMP (.gsa) THAT YtmhaloigcpanpaaProg.lean LOADS. Nothing in Lean hashes anything: it is a label: what it is worth is what the hold of that sum in a sandbox is worth. -/
noncomputable def Try.pinned : Pinned := { name := "ytmhaloigcpanpaa", sum := "be1a5e49ba7f28c96130ead15167b17ac25d2b48f4d48998902a236a4189b6b4", checked := Try.checked }
namespace Rows
def none {H : Type} : Left H := { results := [], args := [] }

/-- 'laws.FnExactTurnTubes': WHATEVER THE INPUT: true; the input reads as it did. -/
def fnExactTurnTubesSpec : ChangeSpec := { name := "fnExactTurnTubes", fn := fun _ => fun
  | [d1, d2] => { results := [.lit (.bool true)], args := [d1, d2] }
  | _ => none }
def fnExactTurnTubesRow : OpenClaim := { program := "ytmhaloigcpanpaa", sum := "be1a5e49ba7f28c96130ead15167b17ac25d2b48f4d48998902a236a4189b6b4", func := "loop.example/g01050/laws.FnExactTurnTubes", spec := "fnExactTurnTubes", apart := false }
def FnExactTurnTubesSaid : Prop := fnExactTurnTubesRow.holds Try.pinned (OpenSpec.ofChange fnExactTurnTubesSpec)

/-- ITS FALSE NEIGHBOUR: 'it returns false'. Refute it at one input. -/
def fnExactTurnTubesWrong : ChangeSpec := { name := "fnExactTurnTubes", fn := fun _ => fun
  | [d1, d2] => { results := [.lit (.bool false)], args := [d1, d2] }
  | _ => none }
def FnExactTurnTubesWrongFalsely : Prop := fnExactTurnTubesRow.holds Try.pinned (OpenSpec.ofChange fnExactTurnTubesWrong)

/-- 'laws.FnExactSizesTable': WHATEVER THE INPUT: true; the input reads as it did. -/
def fnExactSizesTableSpec : ChangeSpec := { name := "fnExactSizesTable", fn := fun _ => fun
  | [d1, d2] => { results := [.lit (.bool true)], args := [d1, d2] }
  | _ => none }
def fnExactSizesTableRow : OpenClaim := { program := "ytmhaloigcpanpaa", sum := "be1a5e49ba7f28c96130ead15167b17ac25d2b48f4d48998902a236a4189b6b4", func := "loop.example/g01050/laws.FnExactSizesTable", spec := "fnExactSizesTable", apart := false }
def FnExactSizesTableSaid : Prop := fnExactSizesTableRow.holds Try.pinned (OpenSpec.ofChange fnExactSizesTableSpec)

/-- ITS FALSE NEIGHBOUR: 'it returns false'. Refute it at one input. -/
def fnExactSizesTableWrong : ChangeSpec := { name := "fnExactSizesTable", fn := fun _ => fun
  | [d1, d2] => { results := [.lit (.bool false)], args := [d1, d2] }
  | _ => none }
def FnExactSizesTableWrongFalsely : Prop := fnExactSizesTableRow.holds Try.pinned (OpenSpec.ofChange fnExactSizesTableWrong)

/-- 'laws.FnExactFewestSizes': WHATEVER THE INPUT: true; the input reads as it did. -/
def fnExactFewestSizesSpec : ChangeSpec := { name := "fnExactFewestSizes", fn := fun _ => fun
  | [d1, d2] => { results := [.lit (.bool true)], args := [d1, d2] }
  | _ => none }
def fnExactFewestSizesRow : OpenClaim := { program := "ytmhaloigcpanpaa", sum := "be1a5e49ba7f28c96130ead15167b17ac25d2b48f4d48998902a236a4189b6b4", func := "loop.example/g01050/laws.FnExactFewestSizes", spec := "fnExactFewestSizes", recurses := true, apart := false }
def FnExactFewestSizesSaid : Prop := fnExactFewestSizesRow.holds Try.pinned (OpenSpec.ofChange fnExactFewestSizesSpec)

/-- ITS FALSE NEIGHBOUR: 'it returns false'. Refute it at one input. -/
def fnExactFewestSizesWrong : ChangeSpec := { name := "fnExactFewestSizes", fn := fun _ => fun
  | [d1, d2] => { results := [.lit (.bool false)], args := [d1, d2] }
  | _ => none }
def FnExactFewestSizesWrongFalsely : Prop := fnExactFewestSizesRow.holds Try.pinned (OpenSpec.ofChange fnExactFewestSizesWrong)

/-- 'laws.FnRiders': WHATEVER THE INPUT: true; the input reads as it did. -/
def fnRidersSpec : ChangeSpec := { name := "fnRiders", fn := fun _ => fun
  | [d] => { results := [.lit (.bool true)], args := [d] }
  | _ => none }
def fnRidersRow : OpenClaim := { program := "ytmhaloigcpanpaa", sum := "be1a5e49ba7f28c96130ead15167b17ac25d2b48f4d48998902a236a4189b6b4", func := "loop.example/g01050/laws.FnRiders", spec := "fnRiders", apart := false }
def FnRidersSaid : Prop := fnRidersRow.holds Try.pinned (OpenSpec.ofChange fnRidersSpec)

/-- ITS FALSE NEIGHBOUR: 'it returns false'. Refute it at one input. -/
def fnRidersWrong : ChangeSpec := { name := "fnRiders", fn := fun _ => fun
  | [d] => { results := [.lit (.bool false)], args := [d] }
  | _ => none }
def FnRidersWrongFalsely : Prop := fnRidersRow.holds Try.pinned (OpenSpec.ofChange fnRidersWrong)

/-- 'laws.FnSizes': WHATEVER THE INPUT: true; the input reads as it did. -/
def fnSizesSpec : ChangeSpec := { name := "fnSizes", fn := fun _ => fun
  | [d] => { results := [.lit (.bool true)], args := [d] }
  | _ => none }
def fnSizesRow : OpenClaim := { program := "ytmhaloigcpanpaa", sum := "be1a5e49ba7f28c96130ead15167b17ac25d2b48f4d48998902a236a4189b6b4", func := "loop.example/g01050/laws.FnSizes", spec := "fnSizes", recurses := true, apart := false }
def FnSizesSaid : Prop := fnSizesRow.holds Try.pinned (OpenSpec.ofChange fnSizesSpec)

/-- ITS FALSE NEIGHBOUR: 'it returns false'. Refute it at one input. -/
def fnSizesWrong : ChangeSpec := { name := "fnSizes", fn := fun _ => fun
  | [d] => { results := [.lit (.bool false)], args := [d] }
  | _ => none }
def FnSizesWrongFalsely : Prop := fnSizesRow.holds Try.pinned (OpenSpec.ofChange fnSizesWrong)

/-- 'laws.FnExactLargestBall': WHATEVER THE INPUT: true; the input reads as it did. -/
def fnExactLargestBallSpec : ChangeSpec := { name := "fnExactLargestBall", fn := fun _ => fun
  | [d1, d2] => { results := [.lit (.bool true)], args := [d1, d2] }
  | _ => none }
def fnExactLargestBallRow : OpenClaim := { program := "ytmhaloigcpanpaa", sum := "be1a5e49ba7f28c96130ead15167b17ac25d2b48f4d48998902a236a4189b6b4", func := "loop.example/g01050/laws.FnExactLargestBall", spec := "fnExactLargestBall", apart := false }
def FnExactLargestBallSaid : Prop := fnExactLargestBallRow.holds Try.pinned (OpenSpec.ofChange fnExactLargestBallSpec)

/-- ITS FALSE NEIGHBOUR: 'it returns false'. Refute it at one input. -/
def fnExactLargestBallWrong : ChangeSpec := { name := "fnExactLargestBall", fn := fun _ => fun
  | [d1, d2] => { results := [.lit (.bool false)], args := [d1, d2] }
  | _ => none }
def FnExactLargestBallWrongFalsely : Prop := fnExactLargestBallRow.holds Try.pinned (OpenSpec.ofChange fnExactLargestBallWrong)

/-- 'laws.FnBalls': WHATEVER THE INPUT: true; the input reads as it did. -/
def fnBallsSpec : ChangeSpec := { name := "fnBalls", fn := fun _ => fun
  | [d] => { results := [.lit (.bool true)], args := [d] }
  | _ => none }
def fnBallsRow : OpenClaim := { program := "ytmhaloigcpanpaa", sum := "be1a5e49ba7f28c96130ead15167b17ac25d2b48f4d48998902a236a4189b6b4", func := "loop.example/g01050/laws.FnBalls", spec := "fnBalls", apart := false }
def FnBallsSaid : Prop := fnBallsRow.holds Try.pinned (OpenSpec.ofChange fnBallsSpec)

/-- ITS FALSE NEIGHBOUR: 'it returns false'. Refute it at one input. -/
def fnBallsWrong : ChangeSpec := { name := "fnBalls", fn := fun _ => fun
  | [d] => { results := [.lit (.bool false)], args := [d] }
  | _ => none }
def FnBallsWrongFalsely : Prop := fnBallsRow.holds Try.pinned (OpenSpec.ofChange fnBallsWrong)

/-- 'laws.FnSets': WHATEVER THE INPUT: true; the input reads as it did. -/
def fnSetsSpec : ChangeSpec := { name := "fnSets", fn := fun _ => fun
  | [d] => { results := [.lit (.bool true)], args := [d] }
  | _ => none }
def fnSetsRow : OpenClaim := { program := "ytmhaloigcpanpaa", sum := "be1a5e49ba7f28c96130ead15167b17ac25d2b48f4d48998902a236a4189b6b4", func := "loop.example/g01050/laws.FnSets", spec := "fnSets", apart := false }
def FnSetsSaid : Prop := fnSetsRow.holds Try.pinned (OpenSpec.ofChange fnSetsSpec)

/-- ITS FALSE NEIGHBOUR: 'it returns false'. Refute it at one input. -/
def fnSetsWrong : ChangeSpec := { name := "fnSets", fn := fun _ => fun
  | [d] => { results := [.lit (.bool false)], args := [d] }
  | _ => none }
def FnSetsWrongFalsely : Prop := fnSetsRow.holds Try.pinned (OpenSpec.ofChange fnSetsWrong)

/- THE SECOND FORM. 'bulk': how many values and letters a reading holds, each counted each time it is reached (what is shared counts as often as it is met; a slice's spare places count too). A statement '..UptoSaid' is the law's where the arguments, and the package variables that the reading takes, are together of bulk at most 1048576: NARROWER than '..Said'. Prove '..Said' where nothing that the law and all that it calls make is longer than what came in: it says more and counts as full. Else prove '..UptoSaid'. A law counts once. -/
mutual
def uptoBulk {H : Type} : DataW H → Nat
  | .lit (.string bytes) => bytes.length + 1
  | .lit _ => 1
  | .nil => 1
  | .ptr d => uptoBulk d + 1
  | .slice elems spare => uptoBulkAll elems + uptoBulkAll spare + 1
  | .agg parts => uptoBulkAll parts + 1
  | .iface _ d => uptoBulk d + 1
  | .map entries => uptoBulkEntries entries + 1
  | .held _ => 1
def uptoBulkAll {H : Type} : List (DataW H) → Nat
  | [] => 0
  | d :: r => uptoBulk d + uptoBulkAll r
def uptoBulkEntries {H : Type} : List (Lit × DataW H) → Nat
  | [] => 0
  | x :: r => uptoBulkEntry x + uptoBulkEntries r
def uptoBulkEntry {H : Type} : Lit × DataW H → Nat
  | (.string bytes, d) => bytes.length + uptoBulk d + 1
  | (_, d) => uptoBulk d + 1
 end
def uptoSmall : (H : Type) → List (DataW H) → Bool := fun _ ds => decide (uptoBulkAll ds ≤ 1048576)
def OpenSpec.upto (s : _root_.Go.ChangeSpec) : _root_.Go.OpenSpec := { _root_.Go.OpenSpec.ofChange s with cond := some uptoSmall }

/-- 'laws.FnExactTurnTubes', WHERE WHAT IT READS IS OF BULK AT MOST 1048576: true; the input reads as it did. -/
def fnExactTurnTubesUptoRow : OpenClaim := { program := "ytmhaloigcpanpaa", sum := "be1a5e49ba7f28c96130ead15167b17ac25d2b48f4d48998902a236a4189b6b4", func := "loop.example/g01050/laws.FnExactTurnTubes", spec := "fnExactTurnTubes", apart := false, narrowed := true }
def FnExactTurnTubesUptoSaid : Prop := fnExactTurnTubesUptoRow.holds Try.pinned (OpenSpec.upto fnExactTurnTubesSpec)

/-- 'laws.FnExactSizesTable', WHERE WHAT IT READS IS OF BULK AT MOST 1048576: true; the input reads as it did. -/
def fnExactSizesTableUptoRow : OpenClaim := { program := "ytmhaloigcpanpaa", sum := "be1a5e49ba7f28c96130ead15167b17ac25d2b48f4d48998902a236a4189b6b4", func := "loop.example/g01050/laws.FnExactSizesTable", spec := "fnExactSizesTable", apart := false, narrowed := true }
def FnExactSizesTableUptoSaid : Prop := fnExactSizesTableUptoRow.holds Try.pinned (OpenSpec.upto fnExactSizesTableSpec)

/-- 'laws.FnExactFewestSizes', WHERE WHAT IT READS IS OF BULK AT MOST 1048576: true; the input reads as it did. -/
def fnExactFewestSizesUptoRow : OpenClaim := { program := "ytmhaloigcpanpaa", sum := "be1a5e49ba7f28c96130ead15167b17ac25d2b48f4d48998902a236a4189b6b4", func := "loop.example/g01050/laws.FnExactFewestSizes", spec := "fnExactFewestSizes", recurses := true, apart := false, narrowed := true }
def FnExactFewestSizesUptoSaid : Prop := fnExactFewestSizesUptoRow.holds Try.pinned (OpenSpec.upto fnExactFewestSizesSpec)

/-- 'laws.FnRiders', WHERE WHAT IT READS IS OF BULK AT MOST 1048576: true; the input reads as it did. -/
def fnRidersUptoRow : OpenClaim := { program := "ytmhaloigcpanpaa", sum := "be1a5e49ba7f28c96130ead15167b17ac25d2b48f4d48998902a236a4189b6b4", func := "loop.example/g01050/laws.FnRiders", spec := "fnRiders", apart := false, narrowed := true }
def FnRidersUptoSaid : Prop := fnRidersUptoRow.holds Try.pinned (OpenSpec.upto fnRidersSpec)

/-- 'laws.FnSizes', WHERE WHAT IT READS IS OF BULK AT MOST 1048576: true; the input reads as it did. -/
def fnSizesUptoRow : OpenClaim := { program := "ytmhaloigcpanpaa", sum := "be1a5e49ba7f28c96130ead15167b17ac25d2b48f4d48998902a236a4189b6b4", func := "loop.example/g01050/laws.FnSizes", spec := "fnSizes", recurses := true, apart := false, narrowed := true }
def FnSizesUptoSaid : Prop := fnSizesUptoRow.holds Try.pinned (OpenSpec.upto fnSizesSpec)

/-- 'laws.FnExactLargestBall', WHERE WHAT IT READS IS OF BULK AT MOST 1048576: true; the input reads as it did. -/
def fnExactLargestBallUptoRow : OpenClaim := { program := "ytmhaloigcpanpaa", sum := "be1a5e49ba7f28c96130ead15167b17ac25d2b48f4d48998902a236a4189b6b4", func := "loop.example/g01050/laws.FnExactLargestBall", spec := "fnExactLargestBall", apart := false, narrowed := true }
def FnExactLargestBallUptoSaid : Prop := fnExactLargestBallUptoRow.holds Try.pinned (OpenSpec.upto fnExactLargestBallSpec)

/-- 'laws.FnBalls', WHERE WHAT IT READS IS OF BULK AT MOST 1048576: true; the input reads as it did. -/
def fnBallsUptoRow : OpenClaim := { program := "ytmhaloigcpanpaa", sum := "be1a5e49ba7f28c96130ead15167b17ac25d2b48f4d48998902a236a4189b6b4", func := "loop.example/g01050/laws.FnBalls", spec := "fnBalls", apart := false, narrowed := true }
def FnBallsUptoSaid : Prop := fnBallsUptoRow.holds Try.pinned (OpenSpec.upto fnBallsSpec)

/-- 'laws.FnSets', WHERE WHAT IT READS IS OF BULK AT MOST 1048576: true; the input reads as it did. -/
def fnSetsUptoRow : OpenClaim := { program := "ytmhaloigcpanpaa", sum := "be1a5e49ba7f28c96130ead15167b17ac25d2b48f4d48998902a236a4189b6b4", func := "loop.example/g01050/laws.FnSets", spec := "fnSets", apart := false, narrowed := true }
def FnSetsUptoSaid : Prop := fnSetsUptoRow.holds Try.pinned (OpenSpec.upto fnSetsSpec)

end Rows
end Go.Proofs.Ytmhaloigcpanpaa
