/-
  No cell of these rows narrows 'for every input' (looked for: loops, veiled, ifaces, maps, wideKeys, modest, calm, conditions, laid).
  DERIVED. THE GIVEN ROWS OF THIS SEAT. 12 by the template 'for every input the law returns true; each argument reads behind the call as it read before'; 0 by the template 'total and deterministic' (their statements: YtenejfhbcpkfdaaTotals.lean).
  GIVEN WITH THE SEED: the statements are not yours to turn. If you find one false, say at which input.
  Laid BY PROGRAM, IN A SANDBOX (cutbox-rows.mjs): the forced cells as the released guide's own fill.sh prints them over the translation c668c41d763842e0… (all of the seat's roots in one cut). By AI agents, Wed Nov 11 2026. No macro, syntax, notation, axiom, sorry.
-/
import Derived.Test.YtenejfhbcpkfdaaChecked
import GoSem.Claim
import GoSem.ClaimJoined
import GoSem.ClaimMapViews
import Derived.JoinedTies
import Derived.KernelRfl
namespace Go.Proofs.Ytenejfhbcpkfdaa
/- THE CELL 'sum', in the pinned program and in every row, IS THE sha256 OF THE DUMP (.gsa) THAT YtenejfhbcpkfdaaProg.lean LOADS. Nothing in Lean hashes anything: it is a label: what it is worth is what the hold of that sum in a sandbox is worth. -/
noncomputable def Try.pinned : Pinned := { name := "ytenejfhbcpkfdaa", sum := "c668c41d763842e06c570ca67c62618615020908aa5affaf7bede5228bd5a159", checked := Try.checked }
namespace Rows
def none {H : Type} : Left H := { results := [], args := [] }

/-- 'laws.FnExactErrorOf': WHATEVER THE INPUT: true; the input reads as it did. -/
def fnExactErrorOfSpec : ChangeSpec := { name := "fnExactErrorOf", fn := fun _ => fun
  | [d] => { results := [.lit (.bool true)], args := [d] }
  | _ => none }
def fnExactErrorOfRow : OpenClaim := { program := "ytenejfhbcpkfdaa", sum := "c668c41d763842e06c570ca67c62618615020908aa5affaf7bede5228bd5a159", func := "loop.example/g01050/laws.FnExactErrorOf", spec := "fnExactErrorOf", apart := false }
def FnExactErrorOfSaid : Prop := fnExactErrorOfRow.holds Try.pinned (OpenSpec.ofChange fnExactErrorOfSpec)

/-- ITS FALSE NEIGHBOUR: 'it returns false'. Refute it at one input. -/
def fnExactErrorOfWrong : ChangeSpec := { name := "fnExactErrorOf", fn := fun _ => fun
  | [d] => { results := [.lit (.bool false)], args := [d] }
  | _ => none }
def FnExactErrorOfWrongFalsely : Prop := fnExactErrorOfRow.holds Try.pinned (OpenSpec.ofChange fnExactErrorOfWrong)

/-- 'laws.FnExactIsClosed': WHATEVER THE INPUT: true; the input reads as it did. -/
def fnExactIsClosedSpec : ChangeSpec := { name := "fnExactIsClosed", fn := fun _ => fun
  | [d] => { results := [.lit (.bool true)], args := [d] }
  | _ => none }
def fnExactIsClosedRow : OpenClaim := { program := "ytenejfhbcpkfdaa", sum := "c668c41d763842e06c570ca67c62618615020908aa5affaf7bede5228bd5a159", func := "loop.example/g01050/laws.FnExactIsClosed", spec := "fnExactIsClosed", apart := false }
def FnExactIsClosedSaid : Prop := fnExactIsClosedRow.holds Try.pinned (OpenSpec.ofChange fnExactIsClosedSpec)

/-- ITS FALSE NEIGHBOUR: 'it returns false'. Refute it at one input. -/
def fnExactIsClosedWrong : ChangeSpec := { name := "fnExactIsClosed", fn := fun _ => fun
  | [d] => { results := [.lit (.bool false)], args := [d] }
  | _ => none }
def FnExactIsClosedWrongFalsely : Prop := fnExactIsClosedRow.holds Try.pinned (OpenSpec.ofChange fnExactIsClosedWrong)

/-- 'laws.FnExactTurnTubes': WHATEVER THE INPUT: true; the input reads as it did. -/
def fnExactTurnTubesSpec : ChangeSpec := { name := "fnExactTurnTubes", fn := fun _ => fun
  | [d1, d2] => { results := [.lit (.bool true)], args := [d1, d2] }
  | _ => none }
def fnExactTurnTubesRow : OpenClaim := { program := "ytenejfhbcpkfdaa", sum := "c668c41d763842e06c570ca67c62618615020908aa5affaf7bede5228bd5a159", func := "loop.example/g01050/laws.FnExactTurnTubes", spec := "fnExactTurnTubes", apart := false }
def FnExactTurnTubesSaid : Prop := fnExactTurnTubesRow.holds Try.pinned (OpenSpec.ofChange fnExactTurnTubesSpec)

/-- ITS FALSE NEIGHBOUR: 'it returns false'. Refute it at one input. -/
def fnExactTurnTubesWrong : ChangeSpec := { name := "fnExactTurnTubes", fn := fun _ => fun
  | [d1, d2] => { results := [.lit (.bool false)], args := [d1, d2] }
  | _ => none }
def FnExactTurnTubesWrongFalsely : Prop := fnExactTurnTubesRow.holds Try.pinned (OpenSpec.ofChange fnExactTurnTubesWrong)

/-- 'laws.FnExactStemFor': WHATEVER THE INPUT: true; the input reads as it did. -/
def fnExactStemForSpec : ChangeSpec := { name := "fnExactStemFor", fn := fun _ => fun
  | [d1, d2] => { results := [.lit (.bool true)], args := [d1, d2] }
  | _ => none }
def fnExactStemForRow : OpenClaim := { program := "ytenejfhbcpkfdaa", sum := "c668c41d763842e06c570ca67c62618615020908aa5affaf7bede5228bd5a159", func := "loop.example/g01050/laws.FnExactStemFor", spec := "fnExactStemFor", apart := false }
def FnExactStemForSaid : Prop := fnExactStemForRow.holds Try.pinned (OpenSpec.ofChange fnExactStemForSpec)

/-- ITS FALSE NEIGHBOUR: 'it returns false'. Refute it at one input. -/
def fnExactStemForWrong : ChangeSpec := { name := "fnExactStemFor", fn := fun _ => fun
  | [d1, d2] => { results := [.lit (.bool false)], args := [d1, d2] }
  | _ => none }
def FnExactStemForWrongFalsely : Prop := fnExactStemForRow.holds Try.pinned (OpenSpec.ofChange fnExactStemForWrong)

/-- 'laws.FnExactAreSizes': WHATEVER THE INPUT: true; the input reads as it did. -/
def fnExactAreSizesSpec : ChangeSpec := { name := "fnExactAreSizes", fn := fun _ => fun
  | [d] => { results := [.lit (.bool true)], args := [d] }
  | _ => none }
def fnExactAreSizesRow : OpenClaim := { program := "ytenejfhbcpkfdaa", sum := "c668c41d763842e06c570ca67c62618615020908aa5affaf7bede5228bd5a159", func := "loop.example/g01050/laws.FnExactAreSizes", spec := "fnExactAreSizes", apart := false }
def FnExactAreSizesSaid : Prop := fnExactAreSizesRow.holds Try.pinned (OpenSpec.ofChange fnExactAreSizesSpec)

/-- ITS FALSE NEIGHBOUR: 'it returns false'. Refute it at one input. -/
def fnExactAreSizesWrong : ChangeSpec := { name := "fnExactAreSizes", fn := fun _ => fun
  | [d] => { results := [.lit (.bool false)], args := [d] }
  | _ => none }
def FnExactAreSizesWrongFalsely : Prop := fnExactAreSizesRow.holds Try.pinned (OpenSpec.ofChange fnExactAreSizesWrong)

/-- 'laws.FnExactDoesSuit': WHATEVER THE INPUT: true; the input reads as it did. -/
def fnExactDoesSuitSpec : ChangeSpec := { name := "fnExactDoesSuit", fn := fun _ => fun
  | [d1, d2] => { results := [.lit (.bool true)], args := [d1, d2] }
  | _ => none }
def fnExactDoesSuitRow : OpenClaim := { program := "ytenejfhbcpkfdaa", sum := "c668c41d763842e06c570ca67c62618615020908aa5affaf7bede5228bd5a159", func := "loop.example/g01050/laws.FnExactDoesSuit", spec := "fnExactDoesSuit", apart := false }
def FnExactDoesSuitSaid : Prop := fnExactDoesSuitRow.holds Try.pinned (OpenSpec.ofChange fnExactDoesSuitSpec)

/-- ITS FALSE NEIGHBOUR: 'it returns false'. Refute it at one input. -/
def fnExactDoesSuitWrong : ChangeSpec := { name := "fnExactDoesSuit", fn := fun _ => fun
  | [d1, d2] => { results := [.lit (.bool false)], args := [d1, d2] }
  | _ => none }
def FnExactDoesSuitWrongFalsely : Prop := fnExactDoesSuitRow.holds Try.pinned (OpenSpec.ofChange fnExactDoesSuitWrong)

/-- 'laws.FnExactSizesFor': WHATEVER THE INPUT: true; the input reads as it did. -/
def fnExactSizesForSpec : ChangeSpec := { name := "fnExactSizesFor", fn := fun _ => fun
  | [d1, d2] => { results := [.lit (.bool true)], args := [d1, d2] }
  | _ => none }
def fnExactSizesForRow : OpenClaim := { program := "ytenejfhbcpkfdaa", sum := "c668c41d763842e06c570ca67c62618615020908aa5affaf7bede5228bd5a159", func := "loop.example/g01050/laws.FnExactSizesFor", spec := "fnExactSizesFor", apart := false }
def FnExactSizesForSaid : Prop := fnExactSizesForRow.holds Try.pinned (OpenSpec.ofChange fnExactSizesForSpec)

/-- ITS FALSE NEIGHBOUR: 'it returns false'. Refute it at one input. -/
def fnExactSizesForWrong : ChangeSpec := { name := "fnExactSizesFor", fn := fun _ => fun
  | [d1, d2] => { results := [.lit (.bool false)], args := [d1, d2] }
  | _ => none }
def FnExactSizesForWrongFalsely : Prop := fnExactSizesForRow.holds Try.pinned (OpenSpec.ofChange fnExactSizesForWrong)

/-- 'laws.FnExactBestSize': WHATEVER THE INPUT: true; the input reads as it did. -/
def fnExactBestSizeSpec : ChangeSpec := { name := "fnExactBestSize", fn := fun _ => fun
  | [d1, d2] => { results := [.lit (.bool true)], args := [d1, d2] }
  | _ => none }
def fnExactBestSizeRow : OpenClaim := { program := "ytenejfhbcpkfdaa", sum := "c668c41d763842e06c570ca67c62618615020908aa5affaf7bede5228bd5a159", func := "loop.example/g01050/laws.FnExactBestSize", spec := "fnExactBestSize", apart := false }
def FnExactBestSizeSaid : Prop := fnExactBestSizeRow.holds Try.pinned (OpenSpec.ofChange fnExactBestSizeSpec)

/-- ITS FALSE NEIGHBOUR: 'it returns false'. Refute it at one input. -/
def fnExactBestSizeWrong : ChangeSpec := { name := "fnExactBestSize", fn := fun _ => fun
  | [d1, d2] => { results := [.lit (.bool false)], args := [d1, d2] }
  | _ => none }
def FnExactBestSizeWrongFalsely : Prop := fnExactBestSizeRow.holds Try.pinned (OpenSpec.ofChange fnExactBestSizeWrong)

/-- 'laws.FnExactSizesTable': WHATEVER THE INPUT: true; the input reads as it did. -/
def fnExactSizesTableSpec : ChangeSpec := { name := "fnExactSizesTable", fn := fun _ => fun
  | [d1, d2] => { results := [.lit (.bool true)], args := [d1, d2] }
  | _ => none }
def fnExactSizesTableRow : OpenClaim := { program := "ytenejfhbcpkfdaa", sum := "c668c41d763842e06c570ca67c62618615020908aa5affaf7bede5228bd5a159", func := "loop.example/g01050/laws.FnExactSizesTable", spec := "fnExactSizesTable", apart := false }
def FnExactSizesTableSaid : Prop := fnExactSizesTableRow.holds Try.pinned (OpenSpec.ofChange fnExactSizesTableSpec)

/-- ITS FALSE NEIGHBOUR: 'it returns false'. Refute it at one input. -/
def fnExactSizesTableWrong : ChangeSpec := { name := "fnExactSizesTable", fn := fun _ => fun
  | [d1, d2] => { results := [.lit (.bool false)], args := [d1, d2] }
  | _ => none }
def FnExactSizesTableWrongFalsely : Prop := fnExactSizesTableRow.holds Try.pinned (OpenSpec.ofChange fnExactSizesTableWrong)

/-- 'laws.FnExactFewestSizes': WHATEVER THE INPUT: true; the input reads as it did. -/
def fnExactFewestSizesSpec : ChangeSpec := { name := "fnExactFewestSizes", fn := fun _ => fun
  | [d1, d2] => { results := [.lit (.bool true)], args := [d1, d2] }
  | _ => none }
def fnExactFewestSizesRow : OpenClaim := { program := "ytenejfhbcpkfdaa", sum := "c668c41d763842e06c570ca67c62618615020908aa5affaf7bede5228bd5a159", func := "loop.example/g01050/laws.FnExactFewestSizes", spec := "fnExactFewestSizes", recurses := true, apart := false }
def FnExactFewestSizesSaid : Prop := fnExactFewestSizesRow.holds Try.pinned (OpenSpec.ofChange fnExactFewestSizesSpec)

/-- ITS FALSE NEIGHBOUR: 'it returns false'. Refute it at one input. -/
def fnExactFewestSizesWrong : ChangeSpec := { name := "fnExactFewestSizes", fn := fun _ => fun
  | [d1, d2] => { results := [.lit (.bool false)], args := [d1, d2] }
  | _ => none }
def FnExactFewestSizesWrongFalsely : Prop := fnExactFewestSizesRow.holds Try.pinned (OpenSpec.ofChange fnExactFewestSizesWrong)

/-- 'laws.FnRiders': WHATEVER THE INPUT: true; the input reads as it did. -/
def fnRidersSpec : ChangeSpec := { name := "fnRiders", fn := fun _ => fun
  | [d] => { results := [.lit (.bool true)], args := [d] }
  | _ => none }
def fnRidersRow : OpenClaim := { program := "ytenejfhbcpkfdaa", sum := "c668c41d763842e06c570ca67c62618615020908aa5affaf7bede5228bd5a159", func := "loop.example/g01050/laws.FnRiders", spec := "fnRiders", apart := false }
def FnRidersSaid : Prop := fnRidersRow.holds Try.pinned (OpenSpec.ofChange fnRidersSpec)

/-- ITS FALSE NEIGHBOUR: 'it returns false'. Refute it at one input. -/
def fnRidersWrong : ChangeSpec := { name := "fnRiders", fn := fun _ => fun
  | [d] => { results := [.lit (.bool false)], args := [d] }
  | _ => none }
def FnRidersWrongFalsely : Prop := fnRidersRow.holds Try.pinned (OpenSpec.ofChange fnRidersWrong)

/-- 'laws.FnSizes': WHATEVER THE INPUT: true; the input reads as it did. -/
def fnSizesSpec : ChangeSpec := { name := "fnSizes", fn := fun _ => fun
  | [d] => { results := [.lit (.bool true)], args := [d] }
  | _ => none }
def fnSizesRow : OpenClaim := { program := "ytenejfhbcpkfdaa", sum := "c668c41d763842e06c570ca67c62618615020908aa5affaf7bede5228bd5a159", func := "loop.example/g01050/laws.FnSizes", spec := "fnSizes", recurses := true, apart := false }
def FnSizesSaid : Prop := fnSizesRow.holds Try.pinned (OpenSpec.ofChange fnSizesSpec)

/-- ITS FALSE NEIGHBOUR: 'it returns false'. Refute it at one input. -/
def fnSizesWrong : ChangeSpec := { name := "fnSizes", fn := fun _ => fun
  | [d] => { results := [.lit (.bool false)], args := [d] }
  | _ => none }
def FnSizesWrongFalsely : Prop := fnSizesRow.holds Try.pinned (OpenSpec.ofChange fnSizesWrong)

/- THE SECOND FORM. 'bulk': how many values and letters a reading holds, each counted each time it is reached (what is shared counts as often as it is met; a slice's spare places count too). A statement '..UptoSaid' is the law's where the arguments, and the package variables that the reading takes, are together of bulk at most 1048576: NARROWER than '..Said'. Prove '..Said' where nothing that the law and all that it calls make is longer than what came in: it says more and counts as full. Else prove '..UptoSaid'. A law counts once. -/
mutual
def uptoBulk {H : Type} : DataW H → Nat
  | .lit (.string bytes) => bytes.length + 1
  | .lit _ => 1
  | .nil => 1
  | .ptr d => uptoBulk d + 1
  | .slice elems spare => uptoBulkAll elems + uptoBulkAll spare + 1
  | .agg parts => uptoBulkAll parts + 1
  | .iface _ d => uptoBulk d + 1
  | .map entries => uptoBulkEntries entries + 1
  | .held _ => 1
def uptoBulkAll {H : Type} : List (DataW H) → Nat
  | [] => 0
  | d :: r => uptoBulk d + uptoBulkAll r
def uptoBulkEntries {H : Type} : List (Lit × DataW H) → Nat
  | [] => 0
  | x :: r => uptoBulkEntry x + uptoBulkEntries r
def uptoBulkEntry {H : Type} : Lit × DataW H → Nat
  | (.string bytes, d) => bytes.length + uptoBulk d + 1
  | (_, d) => uptoBulk d + 1
 end
def uptoSmall : (H : Type) → List (DataW H) → Bool := fun _ ds => decide (uptoBulkAll ds ≤ 1048576)
def OpenSpec.upto (s : _root_.Go.ChangeSpec) : _root_.Go.OpenSpec := { _root_.Go.OpenSpec.ofChange s with cond := some uptoSmall }

/-- 'laws.FnExactErrorOf', WHERE WHAT IT READS IS OF BULK AT MOST 1048576: true; the input reads as it did. -/
def fnExactErrorOfUptoRow : OpenClaim := { program := "ytenejfhbcpkfdaa", sum := "c668c41d763842e06c570ca67c62618615020908aa5affaf7bede5228bd5a159", func := "loop.example/g01050/laws.FnExactErrorOf", spec := "fnExactErrorOf", apart := false, narrowed := true }
def FnExactErrorOfUptoSaid : Prop := fnExactErrorOfUptoRow.holds Try.pinned (OpenSpec.upto fnExactErrorOfSpec)

/-- 'laws.FnExactIsClosed', WHERE WHAT IT READS IS OF BULK AT MOST 1048576: true; the input reads as it did. -/
def fnExactIsClosedUptoRow : OpenClaim := { program := "ytenejfhbcpkfdaa", sum := "c668c41d763842e06c570ca67c62618615020908aa5affaf7bede5228bd5a159", func := "loop.example/g01050/laws.FnExactIsClosed", spec := "fnExactIsClosed", apart := false, narrowed := true }
def FnExactIsClosedUptoSaid : Prop := fnExactIsClosedUptoRow.holds Try.pinned (OpenSpec.upto fnExactIsClosedSpec)

/-- 'laws.FnExactTurnTubes', WHERE WHAT IT READS IS OF BULK AT MOST 1048576: true; the input reads as it did. -/
def fnExactTurnTubesUptoRow : OpenClaim := { program := "ytenejfhbcpkfdaa", sum := "c668c41d763842e06c570ca67c62618615020908aa5affaf7bede5228bd5a159", func := "loop.example/g01050/laws.FnExactTurnTubes", spec := "fnExactTurnTubes", apart := false, narrowed := true }
def FnExactTurnTubesUptoSaid : Prop := fnExactTurnTubesUptoRow.holds Try.pinned (OpenSpec.upto fnExactTurnTubesSpec)

/-- 'laws.FnExactStemFor', WHERE WHAT IT READS IS OF BULK AT MOST 1048576: true; the input reads as it did. -/
def fnExactStemForUptoRow : OpenClaim := { program := "ytenejfhbcpkfdaa", sum := "c668c41d763842e06c570ca67c62618615020908aa5affaf7bede5228bd5a159", func := "loop.example/g01050/laws.FnExactStemFor", spec := "fnExactStemFor", apart := false, narrowed := true }
def FnExactStemForUptoSaid : Prop := fnExactStemForUptoRow.holds Try.pinned (OpenSpec.upto fnExactStemForSpec)

/-- 'laws.FnExactAreSizes', WHERE WHAT IT READS IS OF BULK AT MOST 1048576: true; the input reads as it did. -/
def fnExactAreSizesUptoRow : OpenClaim := { program := "ytenejfhbcpkfdaa", sum := "c668c41d763842e06c570ca67c62618615020908aa5affaf7bede5228bd5a159", func := "loop.example/g01050/laws.FnExactAreSizes", spec := "fnExactAreSizes", apart := false, narrowed := true }
def FnExactAreSizesUptoSaid : Prop := fnExactAreSizesUptoRow.holds Try.pinned (OpenSpec.upto fnExactAreSizesSpec)

/-- 'laws.FnExactDoesSuit', WHERE WHAT IT READS IS OF BULK AT MOST 1048576: true; the input reads as it did. -/
def fnExactDoesSuitUptoRow : OpenClaim := { program := "ytenejfhbcpkfdaa", sum := "c668c41d763842e06c570ca67c62618615020908aa5affaf7bede5228bd5a159", func := "loop.example/g01050/laws.FnExactDoesSuit", spec := "fnExactDoesSuit", apart := false, narrowed := true }
def FnExactDoesSuitUptoSaid : Prop := fnExactDoesSuitUptoRow.holds Try.pinned (OpenSpec.upto fnExactDoesSuitSpec)

/-- 'laws.FnExactSizesFor', WHERE WHAT IT READS IS OF BULK AT MOST 1048576: true; the input reads as it did. -/
def fnExactSizesForUptoRow : OpenClaim := { program := "ytenejfhbcpkfdaa", sum := "c668c41d763842e06c570ca67c62618615020908aa5affaf7bede5228bd5a159", func := "loop.example/g01050/laws.FnExactSizesFor", spec := "fnExactSizesFor", apart := false, narrowed := true }
def FnExactSizesForUptoSaid : Prop := fnExactSizesForUptoRow.holds Try.pinned (OpenSpec.upto fnExactSizesForSpec)

/-- 'laws.FnExactBestSize', WHERE WHAT IT READS IS OF BULK AT MOST 1048576: true; the input reads as it did. -/
def fnExactBestSizeUptoRow : OpenClaim := { program := "ytenejfhbcpkfdaa", sum := "c668c41d763842e06c570ca67c62618615020908aa5affaf7bede5228bd5a159", func := "loop.example/g01050/laws.FnExactBestSize", spec := "fnExactBestSize", apart := false, narrowed := true }
def FnExactBestSizeUptoSaid : Prop := fnExactBestSizeUptoRow.holds Try.pinned (OpenSpec.upto fnExactBestSizeSpec)

/-- 'laws.FnExactSizesTable', WHERE WHAT IT READS IS OF BULK AT MOST 1048576: true; the input reads as it did. -/
def fnExactSizesTableUptoRow : OpenClaim := { program := "ytenejfhbcpkfdaa", sum := "c668c41d763842e06c570ca67c62618615020908aa5affaf7bede5228bd5a159", func := "loop.example/g01050/laws.FnExactSizesTable", spec := "fnExactSizesTable", apart := false, narrowed := true }
def FnExactSizesTableUptoSaid : Prop := fnExactSizesTableUptoRow.holds Try.pinned (OpenSpec.upto fnExactSizesTableSpec)

/-- 'laws.FnExactFewestSizes', WHERE WHAT IT READS IS OF BULK AT MOST 1048576: true; the input reads as it did. -/
def fnExactFewestSizesUptoRow : OpenClaim := { program := "ytenejfhbcpkfdaa", sum := "c668c41d763842e06c570ca67c62618615020908aa5affaf7bede5228bd5a159", func := "loop.example/g01050/laws.FnExactFewestSizes", spec := "fnExactFewestSizes", recurses := true, apart := false, narrowed := true }
def FnExactFewestSizesUptoSaid : Prop := fnExactFewestSizesUptoRow.holds Try.pinned (OpenSpec.upto fnExactFewestSizesSpec)

/-- 'laws.FnRiders', WHERE WHAT IT READS IS OF BULK AT MOST 1048576: true; the input reads as it did. -/
def fnRidersUptoRow : OpenClaim := { program := "ytenejfhbcpkfdaa", sum := "c668c41d763842e06c570ca67c62618615020908aa5affaf7bede5228bd5a159", func := "loop.example/g01050/laws.FnRiders", spec := "fnRiders", apart := false, narrowed := true }
def FnRidersUptoSaid : Prop := fnRidersUptoRow.holds Try.pinned (OpenSpec.upto fnRidersSpec)

/-- 'laws.FnSizes', WHERE WHAT IT READS IS OF BULK AT MOST 1048576: true; the input reads as it did. -/
def fnSizesUptoRow : OpenClaim := { program := "ytenejfhbcpkfdaa", sum := "c668c41d763842e06c570ca67c62618615020908aa5affaf7bede5228bd5a159", func := "loop.example/g01050/laws.FnSizes", spec := "fnSizes", recurses := true, apart := false, narrowed := true }
def FnSizesUptoSaid : Prop := fnSizesUptoRow.holds Try.pinned (OpenSpec.upto fnSizesSpec)

end Rows
end Go.Proofs.Ytenejfhbcpkfdaa
