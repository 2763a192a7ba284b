/-
  No cell of these rows narrows 'for every input' (looked for: loops, veiled, ifaces, maps, wideKeys, modest, calm, conditions, laid).
  DERIVED. THE GIVEN ROWS OF THIS SEAT. 6 by the template 'for every input the law returns true; each argument reads behind the call as it read before'; 0 by the template 'total and deterministic' (their statements: YtmeanlilmbfmkaaTotals.lean).
  GIVEN WITH THE SEED: the statements are not yours to turn. If you find one false, say at which input.
  Laid BY PROGRAM, IN A SANDBOX (cutbox-rows.mjs): the forced cells as the released guide's own fill.sh prints them over the translation b89a0be0f8771004… (all of the seat's roots in one cut). By AI agents, Wed Nov 11 2026. No macro, syntax, notation, axiom, sorry.
-/
import Derived.Test.YtmeanlilmbfmkaaChecked
import GoSem.Claim
import GoSem.ClaimJoined
import GoSem.ClaimMapViews
import Derived.JoinedTies
import Derived.KernelRfl
namespace Go.Proofs.Ytmeanlilmbfmkaa
/- THE CELL 'sum', in the pinned program and in every row, IS THE sha256 OF THE DUMP (.gsa) THAT YtmeanlilmbfmkaaProg.lean LOADS. Nothing in Lean hashes anything: it is a label: what it is worth is what the hold of that sum in a sandbox is worth. -/
noncomputable def Try.pinned : Pinned := { name := "ytmeanlilmbfmkaa", sum := "b89a0be0f8771004f36091f19f94f0fb1fc9e4802c21c745a831bcf61326b0c7", checked := Try.checked }
namespace Rows
def none {H : Type} : Left H := { results := [], args := [] }

/-- 'laws.FnExactIsRider': WHATEVER THE INPUT: true; the input reads as it did. -/
def fnExactIsRiderSpec : ChangeSpec := { name := "fnExactIsRider", fn := fun _ => fun
  | [d] => { results := [.lit (.bool true)], args := [d] }
  | _ => none }
def fnExactIsRiderRow : OpenClaim := { program := "ytmeanlilmbfmkaa", sum := "b89a0be0f8771004f36091f19f94f0fb1fc9e4802c21c745a831bcf61326b0c7", func := "loop.example/g01050/laws.FnExactIsRider", spec := "fnExactIsRider", apart := false }
def FnExactIsRiderSaid : Prop := fnExactIsRiderRow.holds Try.pinned (OpenSpec.ofChange fnExactIsRiderSpec)

/-- ITS FALSE NEIGHBOUR: 'it returns false'. Refute it at one input. -/
def fnExactIsRiderWrong : ChangeSpec := { name := "fnExactIsRider", fn := fun _ => fun
  | [d] => { results := [.lit (.bool false)], args := [d] }
  | _ => none }
def FnExactIsRiderWrongFalsely : Prop := fnExactIsRiderRow.holds Try.pinned (OpenSpec.ofChange fnExactIsRiderWrong)

/-- 'laws.FnExactWantedReach': WHATEVER THE INPUT: true; the input reads as it did. -/
def fnExactWantedReachSpec : ChangeSpec := { name := "fnExactWantedReach", fn := fun _ => fun
  | [d] => { results := [.lit (.bool true)], args := [d] }
  | _ => none }
def fnExactWantedReachRow : OpenClaim := { program := "ytmeanlilmbfmkaa", sum := "b89a0be0f8771004f36091f19f94f0fb1fc9e4802c21c745a831bcf61326b0c7", func := "loop.example/g01050/laws.FnExactWantedReach", spec := "fnExactWantedReach", apart := false }
def FnExactWantedReachSaid : Prop := fnExactWantedReachRow.holds Try.pinned (OpenSpec.ofChange fnExactWantedReachSpec)

/-- ITS FALSE NEIGHBOUR: 'it returns false'. Refute it at one input. -/
def fnExactWantedReachWrong : ChangeSpec := { name := "fnExactWantedReach", fn := fun _ => fun
  | [d] => { results := [.lit (.bool false)], args := [d] }
  | _ => none }
def FnExactWantedReachWrongFalsely : Prop := fnExactWantedReachRow.holds Try.pinned (OpenSpec.ofChange fnExactWantedReachWrong)

/-- 'laws.FnExactSaddleHeight': WHATEVER THE INPUT: true; the input reads as it did. -/
def fnExactSaddleHeightSpec : ChangeSpec := { name := "fnExactSaddleHeight", fn := fun _ => fun
  | [d] => { results := [.lit (.bool true)], args := [d] }
  | _ => none }
def fnExactSaddleHeightRow : OpenClaim := { program := "ytmeanlilmbfmkaa", sum := "b89a0be0f8771004f36091f19f94f0fb1fc9e4802c21c745a831bcf61326b0c7", func := "loop.example/g01050/laws.FnExactSaddleHeight", spec := "fnExactSaddleHeight", apart := false }
def FnExactSaddleHeightSaid : Prop := fnExactSaddleHeightRow.holds Try.pinned (OpenSpec.ofChange fnExactSaddleHeightSpec)

/-- ITS FALSE NEIGHBOUR: 'it returns false'. Refute it at one input. -/
def fnExactSaddleHeightWrong : ChangeSpec := { name := "fnExactSaddleHeight", fn := fun _ => fun
  | [d] => { results := [.lit (.bool false)], args := [d] }
  | _ => none }
def FnExactSaddleHeightWrongFalsely : Prop := fnExactSaddleHeightRow.holds Try.pinned (OpenSpec.ofChange fnExactSaddleHeightWrong)

/-- 'laws.FnExactPortText': WHATEVER THE INPUT: true; the input reads as it did. -/
def fnExactPortTextSpec : ChangeSpec := { name := "fnExactPortText", fn := fun _ => fun
  | [d] => { results := [.lit (.bool true)], args := [d] }
  | _ => none }
def fnExactPortTextRow : OpenClaim := { program := "ytmeanlilmbfmkaa", sum := "b89a0be0f8771004f36091f19f94f0fb1fc9e4802c21c745a831bcf61326b0c7", func := "loop.example/g01050/laws.FnExactPortText", spec := "fnExactPortText", recurses := true, apart := false }
def FnExactPortTextSaid : Prop := fnExactPortTextRow.holds Try.pinned (OpenSpec.ofChange fnExactPortTextSpec)

/-- ITS FALSE NEIGHBOUR: 'it returns false'. Refute it at one input. -/
def fnExactPortTextWrong : ChangeSpec := { name := "fnExactPortText", fn := fun _ => fun
  | [d] => { results := [.lit (.bool false)], args := [d] }
  | _ => none }
def FnExactPortTextWrongFalsely : Prop := fnExactPortTextRow.holds Try.pinned (OpenSpec.ofChange fnExactPortTextWrong)

/-- 'laws.FnExactAreTubes': WHATEVER THE INPUT: true; the input reads as it did. -/
def fnExactAreTubesSpec : ChangeSpec := { name := "fnExactAreTubes", fn := fun _ => fun
  | [d] => { results := [.lit (.bool true)], args := [d] }
  | _ => none }
def fnExactAreTubesRow : OpenClaim := { program := "ytmeanlilmbfmkaa", sum := "b89a0be0f8771004f36091f19f94f0fb1fc9e4802c21c745a831bcf61326b0c7", func := "loop.example/g01050/laws.FnExactAreTubes", spec := "fnExactAreTubes", apart := false }
def FnExactAreTubesSaid : Prop := fnExactAreTubesRow.holds Try.pinned (OpenSpec.ofChange fnExactAreTubesSpec)

/-- ITS FALSE NEIGHBOUR: 'it returns false'. Refute it at one input. -/
def fnExactAreTubesWrong : ChangeSpec := { name := "fnExactAreTubes", fn := fun _ => fun
  | [d] => { results := [.lit (.bool false)], args := [d] }
  | _ => none }
def FnExactAreTubesWrongFalsely : Prop := fnExactAreTubesRow.holds Try.pinned (OpenSpec.ofChange fnExactAreTubesWrong)

/-- 'laws.FnExactAreJoints': WHATEVER THE INPUT: true; the input reads as it did. -/
def fnExactAreJointsSpec : ChangeSpec := { name := "fnExactAreJoints", fn := fun _ => fun
  | [d] => { results := [.lit (.bool true)], args := [d] }
  | _ => none }
def fnExactAreJointsRow : OpenClaim := { program := "ytmeanlilmbfmkaa", sum := "b89a0be0f8771004f36091f19f94f0fb1fc9e4802c21c745a831bcf61326b0c7", func := "loop.example/g01050/laws.FnExactAreJoints", spec := "fnExactAreJoints", apart := false }
def FnExactAreJointsSaid : Prop := fnExactAreJointsRow.holds Try.pinned (OpenSpec.ofChange fnExactAreJointsSpec)

/-- ITS FALSE NEIGHBOUR: 'it returns false'. Refute it at one input. -/
def fnExactAreJointsWrong : ChangeSpec := { name := "fnExactAreJoints", fn := fun _ => fun
  | [d] => { results := [.lit (.bool false)], args := [d] }
  | _ => none }
def FnExactAreJointsWrongFalsely : Prop := fnExactAreJointsRow.holds Try.pinned (OpenSpec.ofChange fnExactAreJointsWrong)

/- THE SECOND FORM. 'bulk': how many values and letters a reading holds, each counted each time it is reached (what is shared counts as often as it is met; a slice's spare places count too). A statement '..UptoSaid' is the law's where the arguments, and the package variables that the reading takes, are together of bulk at most 1048576: NARROWER than '..Said'. Prove '..Said' where nothing that the law and all that it calls make is longer than what came in: it says more and counts as full. Else prove '..UptoSaid'. A law counts once. -/
mutual
def uptoBulk {H : Type} : DataW H → Nat
  | .lit (.string bytes) => bytes.length + 1
  | .lit _ => 1
  | .nil => 1
  | .ptr d => uptoBulk d + 1
  | .slice elems spare => uptoBulkAll elems + uptoBulkAll spare + 1
  | .agg parts => uptoBulkAll parts + 1
  | .iface _ d => uptoBulk d + 1
  | .map entries => uptoBulkEntries entries + 1
  | .held _ => 1
def uptoBulkAll {H : Type} : List (DataW H) → Nat
  | [] => 0
  | d :: r => uptoBulk d + uptoBulkAll r
def uptoBulkEntries {H : Type} : List (Lit × DataW H) → Nat
  | [] => 0
  | x :: r => uptoBulkEntry x + uptoBulkEntries r
def uptoBulkEntry {H : Type} : Lit × DataW H → Nat
  | (.string bytes, d) => bytes.length + uptoBulk d + 1
  | (_, d) => uptoBulk d + 1
 end
def uptoSmall : (H : Type) → List (DataW H) → Bool := fun _ ds => decide (uptoBulkAll ds ≤ 1048576)
def OpenSpec.upto (s : _root_.Go.ChangeSpec) : _root_.Go.OpenSpec := { _root_.Go.OpenSpec.ofChange s with cond := some uptoSmall }

/-- 'laws.FnExactIsRider', WHERE WHAT IT READS IS OF BULK AT MOST 1048576: true; the input reads as it did. -/
def fnExactIsRiderUptoRow : OpenClaim := { program := "ytmeanlilmbfmkaa", sum := "b89a0be0f8771004f36091f19f94f0fb1fc9e4802c21c745a831bcf61326b0c7", func := "loop.example/g01050/laws.FnExactIsRider", spec := "fnExactIsRider", apart := false, narrowed := true }
def FnExactIsRiderUptoSaid : Prop := fnExactIsRiderUptoRow.holds Try.pinned (OpenSpec.upto fnExactIsRiderSpec)

/-- 'laws.FnExactWantedReach', WHERE WHAT IT READS IS OF BULK AT MOST 1048576: true; the input reads as it did. -/
def fnExactWantedReachUptoRow : OpenClaim := { program := "ytmeanlilmbfmkaa", sum := "b89a0be0f8771004f36091f19f94f0fb1fc9e4802c21c745a831bcf61326b0c7", func := "loop.example/g01050/laws.FnExactWantedReach", spec := "fnExactWantedReach", apart := false, narrowed := true }
def FnExactWantedReachUptoSaid : Prop := fnExactWantedReachUptoRow.holds Try.pinned (OpenSpec.upto fnExactWantedReachSpec)

/-- 'laws.FnExactSaddleHeight', WHERE WHAT IT READS IS OF BULK AT MOST 1048576: true; the input reads as it did. -/
def fnExactSaddleHeightUptoRow : OpenClaim := { program := "ytmeanlilmbfmkaa", sum := "b89a0be0f8771004f36091f19f94f0fb1fc9e4802c21c745a831bcf61326b0c7", func := "loop.example/g01050/laws.FnExactSaddleHeight", spec := "fnExactSaddleHeight", apart := false, narrowed := true }
def FnExactSaddleHeightUptoSaid : Prop := fnExactSaddleHeightUptoRow.holds Try.pinned (OpenSpec.upto fnExactSaddleHeightSpec)

/-- 'laws.FnExactPortText', WHERE WHAT IT READS IS OF BULK AT MOST 1048576: true; the input reads as it did. -/
def fnExactPortTextUptoRow : OpenClaim := { program := "ytmeanlilmbfmkaa", sum := "b89a0be0f8771004f36091f19f94f0fb1fc9e4802c21c745a831bcf61326b0c7", func := "loop.example/g01050/laws.FnExactPortText", spec := "fnExactPortText", recurses := true, apart := false, narrowed := true }
def FnExactPortTextUptoSaid : Prop := fnExactPortTextUptoRow.holds Try.pinned (OpenSpec.upto fnExactPortTextSpec)

/-- 'laws.FnExactAreTubes', WHERE WHAT IT READS IS OF BULK AT MOST 1048576: true; the input reads as it did. -/
def fnExactAreTubesUptoRow : OpenClaim := { program := "ytmeanlilmbfmkaa", sum := "b89a0be0f8771004f36091f19f94f0fb1fc9e4802c21c745a831bcf61326b0c7", func := "loop.example/g01050/laws.FnExactAreTubes", spec := "fnExactAreTubes", apart := false, narrowed := true }
def FnExactAreTubesUptoSaid : Prop := fnExactAreTubesUptoRow.holds Try.pinned (OpenSpec.upto fnExactAreTubesSpec)

/-- 'laws.FnExactAreJoints', WHERE WHAT IT READS IS OF BULK AT MOST 1048576: true; the input reads as it did. -/
def fnExactAreJointsUptoRow : OpenClaim := { program := "ytmeanlilmbfmkaa", sum := "b89a0be0f8771004f36091f19f94f0fb1fc9e4802c21c745a831bcf61326b0c7", func := "loop.example/g01050/laws.FnExactAreJoints", spec := "fnExactAreJoints", apart := false, narrowed := true }
def FnExactAreJointsUptoSaid : Prop := fnExactAreJointsUptoRow.holds Try.pinned (OpenSpec.upto fnExactAreJointsSpec)

end Rows
end Go.Proofs.Ytmeanlilmbfmkaa
