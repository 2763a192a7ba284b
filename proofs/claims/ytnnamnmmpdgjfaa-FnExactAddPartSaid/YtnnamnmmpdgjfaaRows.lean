/-
  No cell of these rows narrows 'for every input' (looked for: loops, veiled, ifaces, maps, wideKeys, modest, calm, conditions, laid).
  DERIVED. THE GIVEN ROWS OF THIS SEAT. 12 by the template 'for every input the law returns true; each argument reads behind the call as it read before'; 0 by the template 'total and deterministic' (their statements: YtnnamnmmpdgjfaaTotals.lean).
  GIVEN WITH THE SEED: the statements are not yours to turn. If you find one false, say at which input.
  Laid BY PROGRAM, IN A SANDBOX (cutbox-rows.mjs): the forced cells as the released guide's own fill.sh prints them over the translation b793cd56b8623c89… (all of the seat's roots in one cut). By AI agents, Wed Nov 11 2026. No macro, syntax, notation, axiom, sorry.
-/
import Derived.Test.YtnnamnmmpdgjfaaChecked
import GoSem.Claim
import GoSem.ClaimJoined
import GoSem.ClaimMapViews
import Derived.JoinedTies
import Derived.KernelRfl
namespace Go.Proofs.Ytnnamnmmpdgjfaa
/- THE CELL 'sum', in the pinned program and in every row, IS THE sha256 OF THE DUMP (.gsa) THAT YtnnamnmmpdgjfaaProg.lean LOADS. Nothing in Lean hashes anything: it is a label: what it is worth is what the hold of that sum in a sandbox is worth. -/
noncomputable def Try.pinned : Pinned := { name := "ytnnamnmmpdgjfaa", sum := "b793cd56b8623c89cfbefe15ee6bb9c067acec4c08f8771b9bfecd69ba0836cf", checked := Try.checked }
namespace Rows
def none {H : Type} : Left H := { results := [], args := [] }

/-- 'laws.FnExactIsPart': WHATEVER THE INPUT: true; the input reads as it did. -/
def fnExactIsPartSpec : ChangeSpec := { name := "fnExactIsPart", fn := fun _ => fun
  | [d] => { results := [.lit (.bool true)], args := [d] }
  | _ => none }
def fnExactIsPartRow : OpenClaim := { program := "ytnnamnmmpdgjfaa", sum := "b793cd56b8623c89cfbefe15ee6bb9c067acec4c08f8771b9bfecd69ba0836cf", func := "loop.example/g01050/laws.FnExactIsPart", spec := "fnExactIsPart", apart := false }
def FnExactIsPartSaid : Prop := fnExactIsPartRow.holds Try.pinned (OpenSpec.ofChange fnExactIsPartSpec)

/-- ITS FALSE NEIGHBOUR: 'it returns false'. Refute it at one input. -/
def fnExactIsPartWrong : ChangeSpec := { name := "fnExactIsPart", fn := fun _ => fun
  | [d] => { results := [.lit (.bool false)], args := [d] }
  | _ => none }
def FnExactIsPartWrongFalsely : Prop := fnExactIsPartRow.holds Try.pinned (OpenSpec.ofChange fnExactIsPartWrong)

/-- 'laws.FnExactAreParts': WHATEVER THE INPUT: true; the input reads as it did. -/
def fnExactArePartsSpec : ChangeSpec := { name := "fnExactAreParts", fn := fun _ => fun
  | [d] => { results := [.lit (.bool true)], args := [d] }
  | _ => none }
def fnExactArePartsRow : OpenClaim := { program := "ytnnamnmmpdgjfaa", sum := "b793cd56b8623c89cfbefe15ee6bb9c067acec4c08f8771b9bfecd69ba0836cf", func := "loop.example/g01050/laws.FnExactAreParts", spec := "fnExactAreParts", apart := false }
def FnExactArePartsSaid : Prop := fnExactArePartsRow.holds Try.pinned (OpenSpec.ofChange fnExactArePartsSpec)

/-- ITS FALSE NEIGHBOUR: 'it returns false'. Refute it at one input. -/
def fnExactArePartsWrong : ChangeSpec := { name := "fnExactAreParts", fn := fun _ => fun
  | [d] => { results := [.lit (.bool false)], args := [d] }
  | _ => none }
def FnExactArePartsWrongFalsely : Prop := fnExactArePartsRow.holds Try.pinned (OpenSpec.ofChange fnExactArePartsWrong)

/-- 'laws.FnExactFindPart': WHATEVER THE INPUT: true; the input reads as it did. -/
def fnExactFindPartSpec : ChangeSpec := { name := "fnExactFindPart", fn := fun _ => fun
  | [d1, d2] => { results := [.lit (.bool true)], args := [d1, d2] }
  | _ => none }
def fnExactFindPartRow : OpenClaim := { program := "ytnnamnmmpdgjfaa", sum := "b793cd56b8623c89cfbefe15ee6bb9c067acec4c08f8771b9bfecd69ba0836cf", func := "loop.example/g01050/laws.FnExactFindPart", spec := "fnExactFindPart", apart := false }
def FnExactFindPartSaid : Prop := fnExactFindPartRow.holds Try.pinned (OpenSpec.ofChange fnExactFindPartSpec)

/-- ITS FALSE NEIGHBOUR: 'it returns false'. Refute it at one input. -/
def fnExactFindPartWrong : ChangeSpec := { name := "fnExactFindPart", fn := fun _ => fun
  | [d1, d2] => { results := [.lit (.bool false)], args := [d1, d2] }
  | _ => none }
def FnExactFindPartWrongFalsely : Prop := fnExactFindPartRow.holds Try.pinned (OpenSpec.ofChange fnExactFindPartWrong)

/-- 'laws.FnExactAddPart': WHATEVER THE INPUT: true; the input reads as it did. -/
def fnExactAddPartSpec : ChangeSpec := { name := "fnExactAddPart", fn := fun _ => fun
  | [d1, d2] => { results := [.lit (.bool true)], args := [d1, d2] }
  | _ => none }
def fnExactAddPartRow : OpenClaim := { program := "ytnnamnmmpdgjfaa", sum := "b793cd56b8623c89cfbefe15ee6bb9c067acec4c08f8771b9bfecd69ba0836cf", func := "loop.example/g01050/laws.FnExactAddPart", spec := "fnExactAddPart", apart := false }
def FnExactAddPartSaid : Prop := fnExactAddPartRow.holds Try.pinned (OpenSpec.ofChange fnExactAddPartSpec)

/-- ITS FALSE NEIGHBOUR: 'it returns false'. Refute it at one input. -/
def fnExactAddPartWrong : ChangeSpec := { name := "fnExactAddPart", fn := fun _ => fun
  | [d1, d2] => { results := [.lit (.bool false)], args := [d1, d2] }
  | _ => none }
def FnExactAddPartWrongFalsely : Prop := fnExactAddPartRow.holds Try.pinned (OpenSpec.ofChange fnExactAddPartWrong)

/-- 'laws.FnExactDropPart': WHATEVER THE INPUT: true; the input reads as it did. -/
def fnExactDropPartSpec : ChangeSpec := { name := "fnExactDropPart", fn := fun _ => fun
  | [d1, d2] => { results := [.lit (.bool true)], args := [d1, d2] }
  | _ => none }
def fnExactDropPartRow : OpenClaim := { program := "ytnnamnmmpdgjfaa", sum := "b793cd56b8623c89cfbefe15ee6bb9c067acec4c08f8771b9bfecd69ba0836cf", func := "loop.example/g01050/laws.FnExactDropPart", spec := "fnExactDropPart", apart := false }
def FnExactDropPartSaid : Prop := fnExactDropPartRow.holds Try.pinned (OpenSpec.ofChange fnExactDropPartSpec)

/-- ITS FALSE NEIGHBOUR: 'it returns false'. Refute it at one input. -/
def fnExactDropPartWrong : ChangeSpec := { name := "fnExactDropPart", fn := fun _ => fun
  | [d1, d2] => { results := [.lit (.bool false)], args := [d1, d2] }
  | _ => none }
def FnExactDropPartWrongFalsely : Prop := fnExactDropPartRow.holds Try.pinned (OpenSpec.ofChange fnExactDropPartWrong)

/-- 'laws.FnExactDoJoin': WHATEVER THE INPUT: true; the input reads as it did. -/
def fnExactDoJoinSpec : ChangeSpec := { name := "fnExactDoJoin", fn := fun _ => fun
  | [d1, d2, d3] => { results := [.lit (.bool true)], args := [d1, d2, d3] }
  | _ => none }
def fnExactDoJoinRow : OpenClaim := { program := "ytnnamnmmpdgjfaa", sum := "b793cd56b8623c89cfbefe15ee6bb9c067acec4c08f8771b9bfecd69ba0836cf", func := "loop.example/g01050/laws.FnExactDoJoin", spec := "fnExactDoJoin", apart := false }
def FnExactDoJoinSaid : Prop := fnExactDoJoinRow.holds Try.pinned (OpenSpec.ofChange fnExactDoJoinSpec)

/-- ITS FALSE NEIGHBOUR: 'it returns false'. Refute it at one input. -/
def fnExactDoJoinWrong : ChangeSpec := { name := "fnExactDoJoin", fn := fun _ => fun
  | [d1, d2, d3] => { results := [.lit (.bool false)], args := [d1, d2, d3] }
  | _ => none }
def FnExactDoJoinWrongFalsely : Prop := fnExactDoJoinRow.holds Try.pinned (OpenSpec.ofChange fnExactDoJoinWrong)

/-- 'laws.FnExactPartsInSlot': WHATEVER THE INPUT: true; the input reads as it did. -/
def fnExactPartsInSlotSpec : ChangeSpec := { name := "fnExactPartsInSlot", fn := fun _ => fun
  | [d1, d2] => { results := [.lit (.bool true)], args := [d1, d2] }
  | _ => none }
def fnExactPartsInSlotRow : OpenClaim := { program := "ytnnamnmmpdgjfaa", sum := "b793cd56b8623c89cfbefe15ee6bb9c067acec4c08f8771b9bfecd69ba0836cf", func := "loop.example/g01050/laws.FnExactPartsInSlot", spec := "fnExactPartsInSlot", apart := false }
def FnExactPartsInSlotSaid : Prop := fnExactPartsInSlotRow.holds Try.pinned (OpenSpec.ofChange fnExactPartsInSlotSpec)

/-- ITS FALSE NEIGHBOUR: 'it returns false'. Refute it at one input. -/
def fnExactPartsInSlotWrong : ChangeSpec := { name := "fnExactPartsInSlot", fn := fun _ => fun
  | [d1, d2] => { results := [.lit (.bool false)], args := [d1, d2] }
  | _ => none }
def FnExactPartsInSlotWrongFalsely : Prop := fnExactPartsInSlotRow.holds Try.pinned (OpenSpec.ofChange fnExactPartsInSlotWrong)

/-- 'laws.FnExactCheapestIn': WHATEVER THE INPUT: true; the input reads as it did. -/
def fnExactCheapestInSpec : ChangeSpec := { name := "fnExactCheapestIn", fn := fun _ => fun
  | [d1, d2] => { results := [.lit (.bool true)], args := [d1, d2] }
  | _ => none }
def fnExactCheapestInRow : OpenClaim := { program := "ytnnamnmmpdgjfaa", sum := "b793cd56b8623c89cfbefe15ee6bb9c067acec4c08f8771b9bfecd69ba0836cf", func := "loop.example/g01050/laws.FnExactCheapestIn", spec := "fnExactCheapestIn", apart := false }
def FnExactCheapestInSaid : Prop := fnExactCheapestInRow.holds Try.pinned (OpenSpec.ofChange fnExactCheapestInSpec)

/-- ITS FALSE NEIGHBOUR: 'it returns false'. Refute it at one input. -/
def fnExactCheapestInWrong : ChangeSpec := { name := "fnExactCheapestIn", fn := fun _ => fun
  | [d1, d2] => { results := [.lit (.bool false)], args := [d1, d2] }
  | _ => none }
def FnExactCheapestInWrongFalsely : Prop := fnExactCheapestInRow.holds Try.pinned (OpenSpec.ofChange fnExactCheapestInWrong)

/-- 'laws.FnExactReadPort': WHATEVER THE INPUT: true; the input reads as it did. -/
def fnExactReadPortSpec : ChangeSpec := { name := "fnExactReadPort", fn := fun _ => fun
  | [d] => { results := [.lit (.bool true)], args := [d] }
  | _ => none }
def fnExactReadPortRow : OpenClaim := { program := "ytnnamnmmpdgjfaa", sum := "b793cd56b8623c89cfbefe15ee6bb9c067acec4c08f8771b9bfecd69ba0836cf", func := "loop.example/g01050/laws.FnExactReadPort", spec := "fnExactReadPort", recurses := true, apart := false }
def FnExactReadPortSaid : Prop := fnExactReadPortRow.holds Try.pinned (OpenSpec.ofChange fnExactReadPortSpec)

/-- ITS FALSE NEIGHBOUR: 'it returns false'. Refute it at one input. -/
def fnExactReadPortWrong : ChangeSpec := { name := "fnExactReadPort", fn := fun _ => fun
  | [d] => { results := [.lit (.bool false)], args := [d] }
  | _ => none }
def FnExactReadPortWrongFalsely : Prop := fnExactReadPortRow.holds Try.pinned (OpenSpec.ofChange fnExactReadPortWrong)

/-- 'laws.FnJoins': WHATEVER THE INPUT: true; the input reads as it did. -/
def fnJoinsSpec : ChangeSpec := { name := "fnJoins", fn := fun _ => fun
  | [d] => { results := [.lit (.bool true)], args := [d] }
  | _ => none }
def fnJoinsRow : OpenClaim := { program := "ytnnamnmmpdgjfaa", sum := "b793cd56b8623c89cfbefe15ee6bb9c067acec4c08f8771b9bfecd69ba0836cf", func := "loop.example/g01050/laws.FnJoins", spec := "fnJoins", apart := false }
def FnJoinsSaid : Prop := fnJoinsRow.holds Try.pinned (OpenSpec.ofChange fnJoinsSpec)

/-- ITS FALSE NEIGHBOUR: 'it returns false'. Refute it at one input. -/
def fnJoinsWrong : ChangeSpec := { name := "fnJoins", fn := fun _ => fun
  | [d] => { results := [.lit (.bool false)], args := [d] }
  | _ => none }
def FnJoinsWrongFalsely : Prop := fnJoinsRow.holds Try.pinned (OpenSpec.ofChange fnJoinsWrong)

/-- 'laws.FnPortTexts': WHATEVER THE INPUT: true; the input reads as it did. -/
def fnPortTextsSpec : ChangeSpec := { name := "fnPortTexts", fn := fun _ => fun
  | [d] => { results := [.lit (.bool true)], args := [d] }
  | _ => none }
def fnPortTextsRow : OpenClaim := { program := "ytnnamnmmpdgjfaa", sum := "b793cd56b8623c89cfbefe15ee6bb9c067acec4c08f8771b9bfecd69ba0836cf", func := "loop.example/g01050/laws.FnPortTexts", spec := "fnPortTexts", recurses := true, apart := false }
def FnPortTextsSaid : Prop := fnPortTextsRow.holds Try.pinned (OpenSpec.ofChange fnPortTextsSpec)

/-- ITS FALSE NEIGHBOUR: 'it returns false'. Refute it at one input. -/
def fnPortTextsWrong : ChangeSpec := { name := "fnPortTexts", fn := fun _ => fun
  | [d] => { results := [.lit (.bool false)], args := [d] }
  | _ => none }
def FnPortTextsWrongFalsely : Prop := fnPortTextsRow.holds Try.pinned (OpenSpec.ofChange fnPortTextsWrong)

/-- 'laws.FnParts': WHATEVER THE INPUT: true; the input reads as it did. -/
def fnPartsSpec : ChangeSpec := { name := "fnParts", fn := fun _ => fun
  | [d] => { results := [.lit (.bool true)], args := [d] }
  | _ => none }
def fnPartsRow : OpenClaim := { program := "ytnnamnmmpdgjfaa", sum := "b793cd56b8623c89cfbefe15ee6bb9c067acec4c08f8771b9bfecd69ba0836cf", func := "loop.example/g01050/laws.FnParts", spec := "fnParts", apart := false }
def FnPartsSaid : Prop := fnPartsRow.holds Try.pinned (OpenSpec.ofChange fnPartsSpec)

/-- ITS FALSE NEIGHBOUR: 'it returns false'. Refute it at one input. -/
def fnPartsWrong : ChangeSpec := { name := "fnParts", fn := fun _ => fun
  | [d] => { results := [.lit (.bool false)], args := [d] }
  | _ => none }
def FnPartsWrongFalsely : Prop := fnPartsRow.holds Try.pinned (OpenSpec.ofChange fnPartsWrong)

/- THE SECOND FORM. 'bulk': how many values and letters a reading holds, each counted each time it is reached (what is shared counts as often as it is met; a slice's spare places count too). A statement '..UptoSaid' is the law's where the arguments, and the package variables that the reading takes, are together of bulk at most 1048576: NARROWER than '..Said'. Prove '..Said' where nothing that the law and all that it calls make is longer than what came in: it says more and counts as full. Else prove '..UptoSaid'. A law counts once. -/
mutual
def uptoBulk {H : Type} : DataW H → Nat
  | .lit (.string bytes) => bytes.length + 1
  | .lit _ => 1
  | .nil => 1
  | .ptr d => uptoBulk d + 1
  | .slice elems spare => uptoBulkAll elems + uptoBulkAll spare + 1
  | .agg parts => uptoBulkAll parts + 1
  | .iface _ d => uptoBulk d + 1
  | .map entries => uptoBulkEntries entries + 1
  | .held _ => 1
def uptoBulkAll {H : Type} : List (DataW H) → Nat
  | [] => 0
  | d :: r => uptoBulk d + uptoBulkAll r
def uptoBulkEntries {H : Type} : List (Lit × DataW H) → Nat
  | [] => 0
  | x :: r => uptoBulkEntry x + uptoBulkEntries r
def uptoBulkEntry {H : Type} : Lit × DataW H → Nat
  | (.string bytes, d) => bytes.length + uptoBulk d + 1
  | (_, d) => uptoBulk d + 1
 end
def uptoSmall : (H : Type) → List (DataW H) → Bool := fun _ ds => decide (uptoBulkAll ds ≤ 1048576)
def OpenSpec.upto (s : _root_.Go.ChangeSpec) : _root_.Go.OpenSpec := { _root_.Go.OpenSpec.ofChange s with cond := some uptoSmall }

/-- 'laws.FnExactIsPart', WHERE WHAT IT READS IS OF BULK AT MOST 1048576: true; the input reads as it did. -/
def fnExactIsPartUptoRow : OpenClaim := { program := "ytnnamnmmpdgjfaa", sum := "b793cd56b8623c89cfbefe15ee6bb9c067acec4c08f8771b9bfecd69ba0836cf", func := "loop.example/g01050/laws.FnExactIsPart", spec := "fnExactIsPart", apart := false, narrowed := true }
def FnExactIsPartUptoSaid : Prop := fnExactIsPartUptoRow.holds Try.pinned (OpenSpec.upto fnExactIsPartSpec)

/-- 'laws.FnExactAreParts', WHERE WHAT IT READS IS OF BULK AT MOST 1048576: true; the input reads as it did. -/
def fnExactArePartsUptoRow : OpenClaim := { program := "ytnnamnmmpdgjfaa", sum := "b793cd56b8623c89cfbefe15ee6bb9c067acec4c08f8771b9bfecd69ba0836cf", func := "loop.example/g01050/laws.FnExactAreParts", spec := "fnExactAreParts", apart := false, narrowed := true }
def FnExactArePartsUptoSaid : Prop := fnExactArePartsUptoRow.holds Try.pinned (OpenSpec.upto fnExactArePartsSpec)

/-- 'laws.FnExactFindPart', WHERE WHAT IT READS IS OF BULK AT MOST 1048576: true; the input reads as it did. -/
def fnExactFindPartUptoRow : OpenClaim := { program := "ytnnamnmmpdgjfaa", sum := "b793cd56b8623c89cfbefe15ee6bb9c067acec4c08f8771b9bfecd69ba0836cf", func := "loop.example/g01050/laws.FnExactFindPart", spec := "fnExactFindPart", apart := false, narrowed := true }
def FnExactFindPartUptoSaid : Prop := fnExactFindPartUptoRow.holds Try.pinned (OpenSpec.upto fnExactFindPartSpec)

/-- 'laws.FnExactAddPart', WHERE WHAT IT READS IS OF BULK AT MOST 1048576: true; the input reads as it did. -/
def fnExactAddPartUptoRow : OpenClaim := { program := "ytnnamnmmpdgjfaa", sum := "b793cd56b8623c89cfbefe15ee6bb9c067acec4c08f8771b9bfecd69ba0836cf", func := "loop.example/g01050/laws.FnExactAddPart", spec := "fnExactAddPart", apart := false, narrowed := true }
def FnExactAddPartUptoSaid : Prop := fnExactAddPartUptoRow.holds Try.pinned (OpenSpec.upto fnExactAddPartSpec)

/-- 'laws.FnExactDropPart', WHERE WHAT IT READS IS OF BULK AT MOST 1048576: true; the input reads as it did. -/
def fnExactDropPartUptoRow : OpenClaim := { program := "ytnnamnmmpdgjfaa", sum := "b793cd56b8623c89cfbefe15ee6bb9c067acec4c08f8771b9bfecd69ba0836cf", func := "loop.example/g01050/laws.FnExactDropPart", spec := "fnExactDropPart", apart := false, narrowed := true }
def FnExactDropPartUptoSaid : Prop := fnExactDropPartUptoRow.holds Try.pinned (OpenSpec.upto fnExactDropPartSpec)

/-- 'laws.FnExactDoJoin', WHERE WHAT IT READS IS OF BULK AT MOST 1048576: true; the input reads as it did. -/
def fnExactDoJoinUptoRow : OpenClaim := { program := "ytnnamnmmpdgjfaa", sum := "b793cd56b8623c89cfbefe15ee6bb9c067acec4c08f8771b9bfecd69ba0836cf", func := "loop.example/g01050/laws.FnExactDoJoin", spec := "fnExactDoJoin", apart := false, narrowed := true }
def FnExactDoJoinUptoSaid : Prop := fnExactDoJoinUptoRow.holds Try.pinned (OpenSpec.upto fnExactDoJoinSpec)

/-- 'laws.FnExactPartsInSlot', WHERE WHAT IT READS IS OF BULK AT MOST 1048576: true; the input reads as it did. -/
def fnExactPartsInSlotUptoRow : OpenClaim := { program := "ytnnamnmmpdgjfaa", sum := "b793cd56b8623c89cfbefe15ee6bb9c067acec4c08f8771b9bfecd69ba0836cf", func := "loop.example/g01050/laws.FnExactPartsInSlot", spec := "fnExactPartsInSlot", apart := false, narrowed := true }
def FnExactPartsInSlotUptoSaid : Prop := fnExactPartsInSlotUptoRow.holds Try.pinned (OpenSpec.upto fnExactPartsInSlotSpec)

/-- 'laws.FnExactCheapestIn', WHERE WHAT IT READS IS OF BULK AT MOST 1048576: true; the input reads as it did. -/
def fnExactCheapestInUptoRow : OpenClaim := { program := "ytnnamnmmpdgjfaa", sum := "b793cd56b8623c89cfbefe15ee6bb9c067acec4c08f8771b9bfecd69ba0836cf", func := "loop.example/g01050/laws.FnExactCheapestIn", spec := "fnExactCheapestIn", apart := false, narrowed := true }
def FnExactCheapestInUptoSaid : Prop := fnExactCheapestInUptoRow.holds Try.pinned (OpenSpec.upto fnExactCheapestInSpec)

/-- 'laws.FnExactReadPort', WHERE WHAT IT READS IS OF BULK AT MOST 1048576: true; the input reads as it did. -/
def fnExactReadPortUptoRow : OpenClaim := { program := "ytnnamnmmpdgjfaa", sum := "b793cd56b8623c89cfbefe15ee6bb9c067acec4c08f8771b9bfecd69ba0836cf", func := "loop.example/g01050/laws.FnExactReadPort", spec := "fnExactReadPort", recurses := true, apart := false, narrowed := true }
def FnExactReadPortUptoSaid : Prop := fnExactReadPortUptoRow.holds Try.pinned (OpenSpec.upto fnExactReadPortSpec)

/-- 'laws.FnJoins', WHERE WHAT IT READS IS OF BULK AT MOST 1048576: true; the input reads as it did. -/
def fnJoinsUptoRow : OpenClaim := { program := "ytnnamnmmpdgjfaa", sum := "b793cd56b8623c89cfbefe15ee6bb9c067acec4c08f8771b9bfecd69ba0836cf", func := "loop.example/g01050/laws.FnJoins", spec := "fnJoins", apart := false, narrowed := true }
def FnJoinsUptoSaid : Prop := fnJoinsUptoRow.holds Try.pinned (OpenSpec.upto fnJoinsSpec)

/-- 'laws.FnPortTexts', WHERE WHAT IT READS IS OF BULK AT MOST 1048576: true; the input reads as it did. -/
def fnPortTextsUptoRow : OpenClaim := { program := "ytnnamnmmpdgjfaa", sum := "b793cd56b8623c89cfbefe15ee6bb9c067acec4c08f8771b9bfecd69ba0836cf", func := "loop.example/g01050/laws.FnPortTexts", spec := "fnPortTexts", recurses := true, apart := false, narrowed := true }
def FnPortTextsUptoSaid : Prop := fnPortTextsUptoRow.holds Try.pinned (OpenSpec.upto fnPortTextsSpec)

/-- 'laws.FnParts', WHERE WHAT IT READS IS OF BULK AT MOST 1048576: true; the input reads as it did. -/
def fnPartsUptoRow : OpenClaim := { program := "ytnnamnmmpdgjfaa", sum := "b793cd56b8623c89cfbefe15ee6bb9c067acec4c08f8771b9bfecd69ba0836cf", func := "loop.example/g01050/laws.FnParts", spec := "fnParts", apart := false, narrowed := true }
def FnPartsUptoSaid : Prop := fnPartsUptoRow.holds Try.pinned (OpenSpec.upto fnPartsSpec)

end Rows
end Go.Proofs.Ytnnamnmmpdgjfaa
