/-
  No cell of these rows narrows 'for every input' (looked for: loops, veiled, ifaces, maps, wideKeys, modest, calm, conditions, laid).
  DERIVED. THE GIVEN ROWS OF THIS SEAT. 12 by the template 'for every input the law returns true; each argument reads behind the call as it read before'; 0 by the template 'total and deterministic' (their statements: YtpdkhmnbabccnaaTotals.lean).
  GIVEN WITH THE SEED: the statements are not yours to turn. If you find one false, say at which input.
  Laid BY PROGRAM, IN A SANDBOX (cutbox-rows.mjs): the forced cells as the released guide's own fill.sh prints them over the translation c16ce5e2346ccb9b… (all of the seat's roots in one cut). By AI agents, Wed Nov 11 2026. No macro, syntax, notation, axiom, sorry.
-/
import Derived.Test.YtpdkhmnbabccnaaChecked
import GoSem.Claim
import GoSem.ClaimJoined
import GoSem.ClaimMapViews
import Derived.JoinedTies
import Derived.KernelRfl
namespace Go.Proofs.Ytpdkhmnbabccnaa
/- THE CELL 'sum', in the pinned program and in every row, IS THE sha256 OF THE DUMP (.gsa) THAT YtpdkhmnbabccnaaProg.lean LOADS. Nothing in Lean hashes anything: it is a label: what it is worth is what the hold of that sum in a sandbox is worth. -/
noncomputable def Try.pinned : Pinned := { name := "ytpdkhmnbabccnaa", sum := "c16ce5e2346ccb9b251c963256924bf23bfd0f81e543c6839016b4ad42a15e88", checked := Try.checked }
namespace Rows
def none {H : Type} : Left H := { results := [], args := [] }

/-- 'laws.FnJoins': WHATEVER THE INPUT: true; the input reads as it did. -/
def fnJoinsSpec : ChangeSpec := { name := "fnJoins", fn := fun _ => fun
  | [d] => { results := [.lit (.bool true)], args := [d] }
  | _ => none }
def fnJoinsRow : OpenClaim := { program := "ytpdkhmnbabccnaa", sum := "c16ce5e2346ccb9b251c963256924bf23bfd0f81e543c6839016b4ad42a15e88", func := "loop.example/g01050/laws.FnJoins", spec := "fnJoins", apart := false }
def FnJoinsSaid : Prop := fnJoinsRow.holds Try.pinned (OpenSpec.ofChange fnJoinsSpec)

/-- ITS FALSE NEIGHBOUR: 'it returns false'. Refute it at one input. -/
def fnJoinsWrong : ChangeSpec := { name := "fnJoins", fn := fun _ => fun
  | [d] => { results := [.lit (.bool false)], args := [d] }
  | _ => none }
def FnJoinsWrongFalsely : Prop := fnJoinsRow.holds Try.pinned (OpenSpec.ofChange fnJoinsWrong)

/-- 'laws.FnExactReadPort': WHATEVER THE INPUT: true; the input reads as it did. -/
def fnExactReadPortSpec : ChangeSpec := { name := "fnExactReadPort", fn := fun _ => fun
  | [d] => { results := [.lit (.bool true)], args := [d] }
  | _ => none }
def fnExactReadPortRow : OpenClaim := { program := "ytpdkhmnbabccnaa", sum := "c16ce5e2346ccb9b251c963256924bf23bfd0f81e543c6839016b4ad42a15e88", func := "loop.example/g01050/laws.FnExactReadPort", spec := "fnExactReadPort", recurses := true, apart := false }
def FnExactReadPortSaid : Prop := fnExactReadPortRow.holds Try.pinned (OpenSpec.ofChange fnExactReadPortSpec)

/-- ITS FALSE NEIGHBOUR: 'it returns false'. Refute it at one input. -/
def fnExactReadPortWrong : ChangeSpec := { name := "fnExactReadPort", fn := fun _ => fun
  | [d] => { results := [.lit (.bool false)], args := [d] }
  | _ => none }
def FnExactReadPortWrongFalsely : Prop := fnExactReadPortRow.holds Try.pinned (OpenSpec.ofChange fnExactReadPortWrong)

/-- 'laws.FnPortTexts': WHATEVER THE INPUT: true; the input reads as it did. -/
def fnPortTextsSpec : ChangeSpec := { name := "fnPortTexts", fn := fun _ => fun
  | [d] => { results := [.lit (.bool true)], args := [d] }
  | _ => none }
def fnPortTextsRow : OpenClaim := { program := "ytpdkhmnbabccnaa", sum := "c16ce5e2346ccb9b251c963256924bf23bfd0f81e543c6839016b4ad42a15e88", func := "loop.example/g01050/laws.FnPortTexts", spec := "fnPortTexts", recurses := true, apart := false }
def FnPortTextsSaid : Prop := fnPortTextsRow.holds Try.pinned (OpenSpec.ofChange fnPortTextsSpec)

/-- ITS FALSE NEIGHBOUR: 'it returns false'. Refute it at one input. -/
def fnPortTextsWrong : ChangeSpec := { name := "fnPortTexts", fn := fun _ => fun
  | [d] => { results := [.lit (.bool false)], args := [d] }
  | _ => none }
def FnPortTextsWrongFalsely : Prop := fnPortTextsRow.holds Try.pinned (OpenSpec.ofChange fnPortTextsWrong)

/-- 'laws.FnParts': WHATEVER THE INPUT: true; the input reads as it did. -/
def fnPartsSpec : ChangeSpec := { name := "fnParts", fn := fun _ => fun
  | [d] => { results := [.lit (.bool true)], args := [d] }
  | _ => none }
def fnPartsRow : OpenClaim := { program := "ytpdkhmnbabccnaa", sum := "c16ce5e2346ccb9b251c963256924bf23bfd0f81e543c6839016b4ad42a15e88", func := "loop.example/g01050/laws.FnParts", spec := "fnParts", apart := false }
def FnPartsSaid : Prop := fnPartsRow.holds Try.pinned (OpenSpec.ofChange fnPartsSpec)

/-- ITS FALSE NEIGHBOUR: 'it returns false'. Refute it at one input. -/
def fnPartsWrong : ChangeSpec := { name := "fnParts", fn := fun _ => fun
  | [d] => { results := [.lit (.bool false)], args := [d] }
  | _ => none }
def FnPartsWrongFalsely : Prop := fnPartsRow.holds Try.pinned (OpenSpec.ofChange fnPartsWrong)

/-- 'laws.FnBuilds': WHATEVER THE INPUT: true; the input reads as it did. -/
def fnBuildsSpec : ChangeSpec := { name := "fnBuilds", fn := fun _ => fun
  | [d] => { results := [.lit (.bool true)], args := [d] }
  | _ => none }
def fnBuildsRow : OpenClaim := { program := "ytpdkhmnbabccnaa", sum := "c16ce5e2346ccb9b251c963256924bf23bfd0f81e543c6839016b4ad42a15e88", func := "loop.example/g01050/laws.FnBuilds", spec := "fnBuilds", apart := false }
def FnBuildsSaid : Prop := fnBuildsRow.holds Try.pinned (OpenSpec.ofChange fnBuildsSpec)

/-- ITS FALSE NEIGHBOUR: 'it returns false'. Refute it at one input. -/
def fnBuildsWrong : ChangeSpec := { name := "fnBuilds", fn := fun _ => fun
  | [d] => { results := [.lit (.bool false)], args := [d] }
  | _ => none }
def FnBuildsWrongFalsely : Prop := fnBuildsRow.holds Try.pinned (OpenSpec.ofChange fnBuildsWrong)

/-- 'laws.FnJoints': WHATEVER THE INPUT: true; the input reads as it did. -/
def fnJointsSpec : ChangeSpec := { name := "fnJoints", fn := fun _ => fun
  | [d] => { results := [.lit (.bool true)], args := [d] }
  | _ => none }
def fnJointsRow : OpenClaim := { program := "ytpdkhmnbabccnaa", sum := "c16ce5e2346ccb9b251c963256924bf23bfd0f81e543c6839016b4ad42a15e88", func := "loop.example/g01050/laws.FnJoints", spec := "fnJoints", apart := false }
def FnJointsSaid : Prop := fnJointsRow.holds Try.pinned (OpenSpec.ofChange fnJointsSpec)

/-- ITS FALSE NEIGHBOUR: 'it returns false'. Refute it at one input. -/
def fnJointsWrong : ChangeSpec := { name := "fnJoints", fn := fun _ => fun
  | [d] => { results := [.lit (.bool false)], args := [d] }
  | _ => none }
def FnJointsWrongFalsely : Prop := fnJointsRow.holds Try.pinned (OpenSpec.ofChange fnJointsWrong)

/-- 'laws.FnExactUsableParts': WHATEVER THE INPUT: true; the input reads as it did. -/
def fnExactUsablePartsSpec : ChangeSpec := { name := "fnExactUsableParts", fn := fun _ => fun
  | [d1, d2] => { results := [.lit (.bool true)], args := [d1, d2] }
  | _ => none }
def fnExactUsablePartsRow : OpenClaim := { program := "ytpdkhmnbabccnaa", sum := "c16ce5e2346ccb9b251c963256924bf23bfd0f81e543c6839016b4ad42a15e88", func := "loop.example/g01050/laws.FnExactUsableParts", spec := "fnExactUsableParts", recurses := true, apart := false }
def FnExactUsablePartsSaid : Prop := fnExactUsablePartsRow.holds Try.pinned (OpenSpec.ofChange fnExactUsablePartsSpec)

/-- ITS FALSE NEIGHBOUR: 'it returns false'. Refute it at one input. -/
def fnExactUsablePartsWrong : ChangeSpec := { name := "fnExactUsableParts", fn := fun _ => fun
  | [d1, d2] => { results := [.lit (.bool false)], args := [d1, d2] }
  | _ => none }
def FnExactUsablePartsWrongFalsely : Prop := fnExactUsablePartsRow.holds Try.pinned (OpenSpec.ofChange fnExactUsablePartsWrong)

/-- 'laws.FnExactNeededParts': WHATEVER THE INPUT: true; the input reads as it did. -/
def fnExactNeededPartsSpec : ChangeSpec := { name := "fnExactNeededParts", fn := fun _ => fun
  | [d1, d2] => { results := [.lit (.bool true)], args := [d1, d2] }
  | _ => none }
def fnExactNeededPartsRow : OpenClaim := { program := "ytpdkhmnbabccnaa", sum := "c16ce5e2346ccb9b251c963256924bf23bfd0f81e543c6839016b4ad42a15e88", func := "loop.example/g01050/laws.FnExactNeededParts", spec := "fnExactNeededParts", recurses := true, apart := false }
def FnExactNeededPartsSaid : Prop := fnExactNeededPartsRow.holds Try.pinned (OpenSpec.ofChange fnExactNeededPartsSpec)

/-- ITS FALSE NEIGHBOUR: 'it returns false'. Refute it at one input. -/
def fnExactNeededPartsWrong : ChangeSpec := { name := "fnExactNeededParts", fn := fun _ => fun
  | [d1, d2] => { results := [.lit (.bool false)], args := [d1, d2] }
  | _ => none }
def FnExactNeededPartsWrongFalsely : Prop := fnExactNeededPartsRow.holds Try.pinned (OpenSpec.ofChange fnExactNeededPartsWrong)

/-- 'laws.FnExactFrontier': WHATEVER THE INPUT: true; the input reads as it did. -/
def fnExactFrontierSpec : ChangeSpec := { name := "fnExactFrontier", fn := fun _ => fun
  | [d1, d2] => { results := [.lit (.bool true)], args := [d1, d2] }
  | _ => none }
def fnExactFrontierRow : OpenClaim := { program := "ytpdkhmnbabccnaa", sum := "c16ce5e2346ccb9b251c963256924bf23bfd0f81e543c6839016b4ad42a15e88", func := "loop.example/g01050/laws.FnExactFrontier", spec := "fnExactFrontier", recurses := true, apart := false }
def FnExactFrontierSaid : Prop := fnExactFrontierRow.holds Try.pinned (OpenSpec.ofChange fnExactFrontierSpec)

/-- ITS FALSE NEIGHBOUR: 'it returns false'. Refute it at one input. -/
def fnExactFrontierWrong : ChangeSpec := { name := "fnExactFrontier", fn := fun _ => fun
  | [d1, d2] => { results := [.lit (.bool false)], args := [d1, d2] }
  | _ => none }
def FnExactFrontierWrongFalsely : Prop := fnExactFrontierRow.holds Try.pinned (OpenSpec.ofChange fnExactFrontierWrong)

/-- 'laws.FnBicycles': WHATEVER THE INPUT: true; the input reads as it did. -/
def fnBicyclesSpec : ChangeSpec := { name := "fnBicycles", fn := fun _ => fun
  | [d] => { results := [.lit (.bool true)], args := [d] }
  | _ => none }
def fnBicyclesRow : OpenClaim := { program := "ytpdkhmnbabccnaa", sum := "c16ce5e2346ccb9b251c963256924bf23bfd0f81e543c6839016b4ad42a15e88", func := "loop.example/g01050/laws.FnBicycles", spec := "fnBicycles", recurses := true, apart := false }
def FnBicyclesSaid : Prop := fnBicyclesRow.holds Try.pinned (OpenSpec.ofChange fnBicyclesSpec)

/-- ITS FALSE NEIGHBOUR: 'it returns false'. Refute it at one input. -/
def fnBicyclesWrong : ChangeSpec := { name := "fnBicycles", fn := fun _ => fun
  | [d] => { results := [.lit (.bool false)], args := [d] }
  | _ => none }
def FnBicyclesWrongFalsely : Prop := fnBicyclesRow.holds Try.pinned (OpenSpec.ofChange fnBicyclesWrong)

/-- 'laws.FnSearches': WHATEVER THE INPUT: true; the input reads as it did. -/
def fnSearchesSpec : ChangeSpec := { name := "fnSearches", fn := fun _ => fun
  | [d] => { results := [.lit (.bool true)], args := [d] }
  | _ => none }
def fnSearchesRow : OpenClaim := { program := "ytpdkhmnbabccnaa", sum := "c16ce5e2346ccb9b251c963256924bf23bfd0f81e543c6839016b4ad42a15e88", func := "loop.example/g01050/laws.FnSearches", spec := "fnSearches", recurses := true, apart := false }
def FnSearchesSaid : Prop := fnSearchesRow.holds Try.pinned (OpenSpec.ofChange fnSearchesSpec)

/-- ITS FALSE NEIGHBOUR: 'it returns false'. Refute it at one input. -/
def fnSearchesWrong : ChangeSpec := { name := "fnSearches", fn := fun _ => fun
  | [d] => { results := [.lit (.bool false)], args := [d] }
  | _ => none }
def FnSearchesWrongFalsely : Prop := fnSearchesRow.holds Try.pinned (OpenSpec.ofChange fnSearchesWrong)

/-- 'laws.FnFrontier': WHATEVER THE INPUT: true; the input reads as it did. -/
def fnFrontierSpec : ChangeSpec := { name := "fnFrontier", fn := fun _ => fun
  | [d] => { results := [.lit (.bool true)], args := [d] }
  | _ => none }
def fnFrontierRow : OpenClaim := { program := "ytpdkhmnbabccnaa", sum := "c16ce5e2346ccb9b251c963256924bf23bfd0f81e543c6839016b4ad42a15e88", func := "loop.example/g01050/laws.FnFrontier", spec := "fnFrontier", recurses := true, apart := false }
def FnFrontierSaid : Prop := fnFrontierRow.holds Try.pinned (OpenSpec.ofChange fnFrontierSpec)

/-- ITS FALSE NEIGHBOUR: 'it returns false'. Refute it at one input. -/
def fnFrontierWrong : ChangeSpec := { name := "fnFrontier", fn := fun _ => fun
  | [d] => { results := [.lit (.bool false)], args := [d] }
  | _ => none }
def FnFrontierWrongFalsely : Prop := fnFrontierRow.holds Try.pinned (OpenSpec.ofChange fnFrontierWrong)

/- THE SECOND FORM. 'bulk': how many values and letters a reading holds, each counted each time it is reached (what is shared counts as often as it is met; a slice's spare places count too). A statement '..UptoSaid' is the law's where the arguments, and the package variables that the reading takes, are together of bulk at most 1048576: NARROWER than '..Said'. Prove '..Said' where nothing that the law and all that it calls make is longer than what came in: it says more and counts as full. Else prove '..UptoSaid'. A law counts once. -/
mutual
def uptoBulk {H : Type} : DataW H → Nat
  | .lit (.string bytes) => bytes.length + 1
  | .lit _ => 1
  | .nil => 1
  | .ptr d => uptoBulk d + 1
  | .slice elems spare => uptoBulkAll elems + uptoBulkAll spare + 1
  | .agg parts => uptoBulkAll parts + 1
  | .iface _ d => uptoBulk d + 1
  | .map entries => uptoBulkEntries entries + 1
  | .held _ => 1
def uptoBulkAll {H : Type} : List (DataW H) → Nat
  | [] => 0
  | d :: r => uptoBulk d + uptoBulkAll r
def uptoBulkEntries {H : Type} : List (Lit × DataW H) → Nat
  | [] => 0
  | x :: r => uptoBulkEntry x + uptoBulkEntries r
def uptoBulkEntry {H : Type} : Lit × DataW H → Nat
  | (.string bytes, d) => bytes.length + uptoBulk d + 1
  | (_, d) => uptoBulk d + 1
 end
def uptoSmall : (H : Type) → List (DataW H) → Bool := fun _ ds => decide (uptoBulkAll ds ≤ 1048576)
def OpenSpec.upto (s : _root_.Go.ChangeSpec) : _root_.Go.OpenSpec := { _root_.Go.OpenSpec.ofChange s with cond := some uptoSmall }

/-- 'laws.FnJoins', WHERE WHAT IT READS IS OF BULK AT MOST 1048576: true; the input reads as it did. -/
def fnJoinsUptoRow : OpenClaim := { program := "ytpdkhmnbabccnaa", sum := "c16ce5e2346ccb9b251c963256924bf23bfd0f81e543c6839016b4ad42a15e88", func := "loop.example/g01050/laws.FnJoins", spec := "fnJoins", apart := false, narrowed := true }
def FnJoinsUptoSaid : Prop := fnJoinsUptoRow.holds Try.pinned (OpenSpec.upto fnJoinsSpec)

/-- 'laws.FnExactReadPort', WHERE WHAT IT READS IS OF BULK AT MOST 1048576: true; the input reads as it did. -/
def fnExactReadPortUptoRow : OpenClaim := { program := "ytpdkhmnbabccnaa", sum := "c16ce5e2346ccb9b251c963256924bf23bfd0f81e543c6839016b4ad42a15e88", func := "loop.example/g01050/laws.FnExactReadPort", spec := "fnExactReadPort", recurses := true, apart := false, narrowed := true }
def FnExactReadPortUptoSaid : Prop := fnExactReadPortUptoRow.holds Try.pinned (OpenSpec.upto fnExactReadPortSpec)

/-- 'laws.FnPortTexts', WHERE WHAT IT READS IS OF BULK AT MOST 1048576: true; the input reads as it did. -/
def fnPortTextsUptoRow : OpenClaim := { program := "ytpdkhmnbabccnaa", sum := "c16ce5e2346ccb9b251c963256924bf23bfd0f81e543c6839016b4ad42a15e88", func := "loop.example/g01050/laws.FnPortTexts", spec := "fnPortTexts", recurses := true, apart := false, narrowed := true }
def FnPortTextsUptoSaid : Prop := fnPortTextsUptoRow.holds Try.pinned (OpenSpec.upto fnPortTextsSpec)

/-- 'laws.FnParts', WHERE WHAT IT READS IS OF BULK AT MOST 1048576: true; the input reads as it did. -/
def fnPartsUptoRow : OpenClaim := { program := "ytpdkhmnbabccnaa", sum := "c16ce5e2346ccb9b251c963256924bf23bfd0f81e543c6839016b4ad42a15e88", func := "loop.example/g01050/laws.FnParts", spec := "fnParts", apart := false, narrowed := true }
def FnPartsUptoSaid : Prop := fnPartsUptoRow.holds Try.pinned (OpenSpec.upto fnPartsSpec)

/-- 'laws.FnBuilds', WHERE WHAT IT READS IS OF BULK AT MOST 1048576: true; the input reads as it did. -/
def fnBuildsUptoRow : OpenClaim := { program := "ytpdkhmnbabccnaa", sum := "c16ce5e2346ccb9b251c963256924bf23bfd0f81e543c6839016b4ad42a15e88", func := "loop.example/g01050/laws.FnBuilds", spec := "fnBuilds", apart := false, narrowed := true }
def FnBuildsUptoSaid : Prop := fnBuildsUptoRow.holds Try.pinned (OpenSpec.upto fnBuildsSpec)

/-- 'laws.FnJoints', WHERE WHAT IT READS IS OF BULK AT MOST 1048576: true; the input reads as it did. -/
def fnJointsUptoRow : OpenClaim := { program := "ytpdkhmnbabccnaa", sum := "c16ce5e2346ccb9b251c963256924bf23bfd0f81e543c6839016b4ad42a15e88", func := "loop.example/g01050/laws.FnJoints", spec := "fnJoints", apart := false, narrowed := true }
def FnJointsUptoSaid : Prop := fnJointsUptoRow.holds Try.pinned (OpenSpec.upto fnJointsSpec)

/-- 'laws.FnExactUsableParts', WHERE WHAT IT READS IS OF BULK AT MOST 1048576: true; the input reads as it did. -/
def fnExactUsablePartsUptoRow : OpenClaim := { program := "ytpdkhmnbabccnaa", sum := "c16ce5e2346ccb9b251c963256924bf23bfd0f81e543c6839016b4ad42a15e88", func := "loop.example/g01050/laws.FnExactUsableParts", spec := "fnExactUsableParts", recurses := true, apart := false, narrowed := true }
def FnExactUsablePartsUptoSaid : Prop := fnExactUsablePartsUptoRow.holds Try.pinned (OpenSpec.upto fnExactUsablePartsSpec)

/-- 'laws.FnExactNeededParts', WHERE WHAT IT READS IS OF BULK AT MOST 1048576: true; the input reads as it did. -/
def fnExactNeededPartsUptoRow : OpenClaim := { program := "ytpdkhmnbabccnaa", sum := "c16ce5e2346ccb9b251c963256924bf23bfd0f81e543c6839016b4ad42a15e88", func := "loop.example/g01050/laws.FnExactNeededParts", spec := "fnExactNeededParts", recurses := true, apart := false, narrowed := true }
def FnExactNeededPartsUptoSaid : Prop := fnExactNeededPartsUptoRow.holds Try.pinned (OpenSpec.upto fnExactNeededPartsSpec)

/-- 'laws.FnExactFrontier', WHERE WHAT IT READS IS OF BULK AT MOST 1048576: true; the input reads as it did. -/
def fnExactFrontierUptoRow : OpenClaim := { program := "ytpdkhmnbabccnaa", sum := "c16ce5e2346ccb9b251c963256924bf23bfd0f81e543c6839016b4ad42a15e88", func := "loop.example/g01050/laws.FnExactFrontier", spec := "fnExactFrontier", recurses := true, apart := false, narrowed := true }
def FnExactFrontierUptoSaid : Prop := fnExactFrontierUptoRow.holds Try.pinned (OpenSpec.upto fnExactFrontierSpec)

/-- 'laws.FnBicycles', WHERE WHAT IT READS IS OF BULK AT MOST 1048576: true; the input reads as it did. -/
def fnBicyclesUptoRow : OpenClaim := { program := "ytpdkhmnbabccnaa", sum := "c16ce5e2346ccb9b251c963256924bf23bfd0f81e543c6839016b4ad42a15e88", func := "loop.example/g01050/laws.FnBicycles", spec := "fnBicycles", recurses := true, apart := false, narrowed := true }
def FnBicyclesUptoSaid : Prop := fnBicyclesUptoRow.holds Try.pinned (OpenSpec.upto fnBicyclesSpec)

/-- 'laws.FnSearches', WHERE WHAT IT READS IS OF BULK AT MOST 1048576: true; the input reads as it did. -/
def fnSearchesUptoRow : OpenClaim := { program := "ytpdkhmnbabccnaa", sum := "c16ce5e2346ccb9b251c963256924bf23bfd0f81e543c6839016b4ad42a15e88", func := "loop.example/g01050/laws.FnSearches", spec := "fnSearches", recurses := true, apart := false, narrowed := true }
def FnSearchesUptoSaid : Prop := fnSearchesUptoRow.holds Try.pinned (OpenSpec.upto fnSearchesSpec)

/-- 'laws.FnFrontier', WHERE WHAT IT READS IS OF BULK AT MOST 1048576: true; the input reads as it did. -/
def fnFrontierUptoRow : OpenClaim := { program := "ytpdkhmnbabccnaa", sum := "c16ce5e2346ccb9b251c963256924bf23bfd0f81e543c6839016b4ad42a15e88", func := "loop.example/g01050/laws.FnFrontier", spec := "fnFrontier", recurses := true, apart := false, narrowed := true }
def FnFrontierUptoSaid : Prop := fnFrontierUptoRow.holds Try.pinned (OpenSpec.upto fnFrontierSpec)

end Rows
end Go.Proofs.Ytpdkhmnbabccnaa
