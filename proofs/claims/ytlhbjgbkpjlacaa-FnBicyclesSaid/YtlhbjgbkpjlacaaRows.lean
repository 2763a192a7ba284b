/-
  No cell of these rows narrows 'for every input' (looked for: loops, veiled, ifaces, maps, wideKeys, modest, calm, conditions, laid).
  DERIVED. THE GIVEN ROWS OF THIS SEAT. 7 by the template 'for every input the law returns true; each argument reads behind the call as it read before'; 0 by the template 'total and deterministic' (their statements: YtlhbjgbkpjlacaaTotals.lean).
  GIVEN WITH THE SEED: the statements are not yours to turn. If you find one false, say at which input.
  Laid BY PROGRAM, IN A SANDBOX (cutbox-rows.mjs): the forced cells as the released guide's own fill.sh prints them over the translation d07c9509454a275a… (all of the seat's roots in one cut). By AI agents, Wed Nov 11 2026. No macro, syntax, notation, axiom, sorry.
-/
import Derived.Test.YtlhbjgbkpjlacaaChecked
import GoSem.Claim
import GoSem.ClaimJoined
import GoSem.ClaimMapViews
import Derived.JoinedTies
import Derived.KernelRfl
namespace Go.Proofs.Ytlhbjgbkpjlacaa
/- THE CELL 'sum', in the pinned program and in every row, IS THE sha256 OF THE DUMP (.gsa) THAT YtlhbjgbkpjlacaaProg.lean LOADS. Nothing in Lean hashes anything: it is a label: what it is worth is what the hold of that sum in a sandbox is worth. -/
noncomputable def Try.pinned : Pinned := { name := "ytlhbjgbkpjlacaa", sum := "d07c9509454a275aa2452e118e80b1b4112cd15295f99f799fdce400b50ba384", checked := Try.checked }
namespace Rows
def none {H : Type} : Left H := { results := [], args := [] }

/-- 'laws.FnExactReadPort': WHATEVER THE INPUT: true; the input reads as it did. -/
def fnExactReadPortSpec : ChangeSpec := { name := "fnExactReadPort", fn := fun _ => fun
  | [d] => { results := [.lit (.bool true)], args := [d] }
  | _ => none }
def fnExactReadPortRow : OpenClaim := { program := "ytlhbjgbkpjlacaa", sum := "d07c9509454a275aa2452e118e80b1b4112cd15295f99f799fdce400b50ba384", func := "loop.example/g01050/laws.FnExactReadPort", spec := "fnExactReadPort", recurses := true, apart := false }
def FnExactReadPortSaid : Prop := fnExactReadPortRow.holds Try.pinned (OpenSpec.ofChange fnExactReadPortSpec)

/-- ITS FALSE NEIGHBOUR: 'it returns false'. Refute it at one input. -/
def fnExactReadPortWrong : ChangeSpec := { name := "fnExactReadPort", fn := fun _ => fun
  | [d] => { results := [.lit (.bool false)], args := [d] }
  | _ => none }
def FnExactReadPortWrongFalsely : Prop := fnExactReadPortRow.holds Try.pinned (OpenSpec.ofChange fnExactReadPortWrong)

/-- 'laws.FnPortTexts': WHATEVER THE INPUT: true; the input reads as it did. -/
def fnPortTextsSpec : ChangeSpec := { name := "fnPortTexts", fn := fun _ => fun
  | [d] => { results := [.lit (.bool true)], args := [d] }
  | _ => none }
def fnPortTextsRow : OpenClaim := { program := "ytlhbjgbkpjlacaa", sum := "d07c9509454a275aa2452e118e80b1b4112cd15295f99f799fdce400b50ba384", func := "loop.example/g01050/laws.FnPortTexts", spec := "fnPortTexts", recurses := true, apart := false }
def FnPortTextsSaid : Prop := fnPortTextsRow.holds Try.pinned (OpenSpec.ofChange fnPortTextsSpec)

/-- ITS FALSE NEIGHBOUR: 'it returns false'. Refute it at one input. -/
def fnPortTextsWrong : ChangeSpec := { name := "fnPortTexts", fn := fun _ => fun
  | [d] => { results := [.lit (.bool false)], args := [d] }
  | _ => none }
def FnPortTextsWrongFalsely : Prop := fnPortTextsRow.holds Try.pinned (OpenSpec.ofChange fnPortTextsWrong)

/-- 'laws.FnParts': WHATEVER THE INPUT: true; the input reads as it did. -/
def fnPartsSpec : ChangeSpec := { name := "fnParts", fn := fun _ => fun
  | [d] => { results := [.lit (.bool true)], args := [d] }
  | _ => none }
def fnPartsRow : OpenClaim := { program := "ytlhbjgbkpjlacaa", sum := "d07c9509454a275aa2452e118e80b1b4112cd15295f99f799fdce400b50ba384", func := "loop.example/g01050/laws.FnParts", spec := "fnParts", apart := false }
def FnPartsSaid : Prop := fnPartsRow.holds Try.pinned (OpenSpec.ofChange fnPartsSpec)

/-- ITS FALSE NEIGHBOUR: 'it returns false'. Refute it at one input. -/
def fnPartsWrong : ChangeSpec := { name := "fnParts", fn := fun _ => fun
  | [d] => { results := [.lit (.bool false)], args := [d] }
  | _ => none }
def FnPartsWrongFalsely : Prop := fnPartsRow.holds Try.pinned (OpenSpec.ofChange fnPartsWrong)

/-- 'laws.FnJoints': WHATEVER THE INPUT: true; the input reads as it did. -/
def fnJointsSpec : ChangeSpec := { name := "fnJoints", fn := fun _ => fun
  | [d] => { results := [.lit (.bool true)], args := [d] }
  | _ => none }
def fnJointsRow : OpenClaim := { program := "ytlhbjgbkpjlacaa", sum := "d07c9509454a275aa2452e118e80b1b4112cd15295f99f799fdce400b50ba384", func := "loop.example/g01050/laws.FnJoints", spec := "fnJoints", apart := false }
def FnJointsSaid : Prop := fnJointsRow.holds Try.pinned (OpenSpec.ofChange fnJointsSpec)

/-- ITS FALSE NEIGHBOUR: 'it returns false'. Refute it at one input. -/
def fnJointsWrong : ChangeSpec := { name := "fnJoints", fn := fun _ => fun
  | [d] => { results := [.lit (.bool false)], args := [d] }
  | _ => none }
def FnJointsWrongFalsely : Prop := fnJointsRow.holds Try.pinned (OpenSpec.ofChange fnJointsWrong)

/-- 'laws.FnExactFrontier': WHATEVER THE INPUT: true; the input reads as it did. -/
def fnExactFrontierSpec : ChangeSpec := { name := "fnExactFrontier", fn := fun _ => fun
  | [d1, d2] => { results := [.lit (.bool true)], args := [d1, d2] }
  | _ => none }
def fnExactFrontierRow : OpenClaim := { program := "ytlhbjgbkpjlacaa", sum := "d07c9509454a275aa2452e118e80b1b4112cd15295f99f799fdce400b50ba384", func := "loop.example/g01050/laws.FnExactFrontier", spec := "fnExactFrontier", recurses := true, apart := false }
def FnExactFrontierSaid : Prop := fnExactFrontierRow.holds Try.pinned (OpenSpec.ofChange fnExactFrontierSpec)

/-- ITS FALSE NEIGHBOUR: 'it returns false'. Refute it at one input. -/
def fnExactFrontierWrong : ChangeSpec := { name := "fnExactFrontier", fn := fun _ => fun
  | [d1, d2] => { results := [.lit (.bool false)], args := [d1, d2] }
  | _ => none }
def FnExactFrontierWrongFalsely : Prop := fnExactFrontierRow.holds Try.pinned (OpenSpec.ofChange fnExactFrontierWrong)

/-- 'laws.FnFrontier': WHATEVER THE INPUT: true; the input reads as it did. -/
def fnFrontierSpec : ChangeSpec := { name := "fnFrontier", fn := fun _ => fun
  | [d] => { results := [.lit (.bool true)], args := [d] }
  | _ => none }
def fnFrontierRow : OpenClaim := { program := "ytlhbjgbkpjlacaa", sum := "d07c9509454a275aa2452e118e80b1b4112cd15295f99f799fdce400b50ba384", func := "loop.example/g01050/laws.FnFrontier", spec := "fnFrontier", recurses := true, apart := false }
def FnFrontierSaid : Prop := fnFrontierRow.holds Try.pinned (OpenSpec.ofChange fnFrontierSpec)

/-- ITS FALSE NEIGHBOUR: 'it returns false'. Refute it at one input. -/
def fnFrontierWrong : ChangeSpec := { name := "fnFrontier", fn := fun _ => fun
  | [d] => { results := [.lit (.bool false)], args := [d] }
  | _ => none }
def FnFrontierWrongFalsely : Prop := fnFrontierRow.holds Try.pinned (OpenSpec.ofChange fnFrontierWrong)

/-- 'laws.FnBicycles': WHATEVER THE INPUT: true; the input reads as it did. -/
def fnBicyclesSpec : ChangeSpec := { name := "fnBicycles", fn := fun _ => fun
  | [d] => { results := [.lit (.bool true)], args := [d] }
  | _ => none }
def fnBicyclesRow : OpenClaim := { program := "ytlhbjgbkpjlacaa", sum := "d07c9509454a275aa2452e118e80b1b4112cd15295f99f799fdce400b50ba384", func := "loop.example/g01050/laws.FnBicycles", spec := "fnBicycles", recurses := true, apart := false }
def FnBicyclesSaid : Prop := fnBicyclesRow.holds Try.pinned (OpenSpec.ofChange fnBicyclesSpec)

/-- ITS FALSE NEIGHBOUR: 'it returns false'. Refute it at one input. -/
def fnBicyclesWrong : ChangeSpec := { name := "fnBicycles", fn := fun _ => fun
  | [d] => { results := [.lit (.bool false)], args := [d] }
  | _ => none }
def FnBicyclesWrongFalsely : Prop := fnBicyclesRow.holds Try.pinned (OpenSpec.ofChange fnBicyclesWrong)

/- THE SECOND FORM. 'bulk': how many values and letters a reading holds, each counted each time it is reached (what is shared counts as often as it is met; a slice's spare places count too). A statement '..UptoSaid' is the law's where the arguments, and the package variables that the reading takes, are together of bulk at most 1048576: NARROWER than '..Said'. Prove '..Said' where nothing that the law and all that it calls make is longer than what came in: it says more and counts as full. Else prove '..UptoSaid'. A law counts once. -/
mutual
def uptoBulk {H : Type} : DataW H → Nat
  | .lit (.string bytes) => bytes.length + 1
  | .lit _ => 1
  | .nil => 1
  | .ptr d => uptoBulk d + 1
  | .slice elems spare => uptoBulkAll elems + uptoBulkAll spare + 1
  | .agg parts => uptoBulkAll parts + 1
  | .iface _ d => uptoBulk d + 1
  | .map entries => uptoBulkEntries entries + 1
  | .held _ => 1
def uptoBulkAll {H : Type} : List (DataW H) → Nat
  | [] => 0
  | d :: r => uptoBulk d + uptoBulkAll r
def uptoBulkEntries {H : Type} : List (Lit × DataW H) → Nat
  | [] => 0
  | x :: r => uptoBulkEntry x + uptoBulkEntries r
def uptoBulkEntry {H : Type} : Lit × DataW H → Nat
  | (.string bytes, d) => bytes.length + uptoBulk d + 1
  | (_, d) => uptoBulk d + 1
 end
def uptoSmall : (H : Type) → List (DataW H) → Bool := fun _ ds => decide (uptoBulkAll ds ≤ 1048576)
def OpenSpec.upto (s : _root_.Go.ChangeSpec) : _root_.Go.OpenSpec := { _root_.Go.OpenSpec.ofChange s with cond := some uptoSmall }

/-- 'laws.FnExactReadPort', WHERE WHAT IT READS IS OF BULK AT MOST 1048576: true; the input reads as it did. -/
def fnExactReadPortUptoRow : OpenClaim := { program := "ytlhbjgbkpjlacaa", sum := "d07c9509454a275aa2452e118e80b1b4112cd15295f99f799fdce400b50ba384", func := "loop.example/g01050/laws.FnExactReadPort", spec := "fnExactReadPort", recurses := true, apart := false, narrowed := true }
def FnExactReadPortUptoSaid : Prop := fnExactReadPortUptoRow.holds Try.pinned (OpenSpec.upto fnExactReadPortSpec)

/-- 'laws.FnPortTexts', WHERE WHAT IT READS IS OF BULK AT MOST 1048576: true; the input reads as it did. -/
def fnPortTextsUptoRow : OpenClaim := { program := "ytlhbjgbkpjlacaa", sum := "d07c9509454a275aa2452e118e80b1b4112cd15295f99f799fdce400b50ba384", func := "loop.example/g01050/laws.FnPortTexts", spec := "fnPortTexts", recurses := true, apart := false, narrowed := true }
def FnPortTextsUptoSaid : Prop := fnPortTextsUptoRow.holds Try.pinned (OpenSpec.upto fnPortTextsSpec)

/-- 'laws.FnParts', WHERE WHAT IT READS IS OF BULK AT MOST 1048576: true; the input reads as it did. -/
def fnPartsUptoRow : OpenClaim := { program := "ytlhbjgbkpjlacaa", sum := "d07c9509454a275aa2452e118e80b1b4112cd15295f99f799fdce400b50ba384", func := "loop.example/g01050/laws.FnParts", spec := "fnParts", apart := false, narrowed := true }
def FnPartsUptoSaid : Prop := fnPartsUptoRow.holds Try.pinned (OpenSpec.upto fnPartsSpec)

/-- 'laws.FnJoints', WHERE WHAT IT READS IS OF BULK AT MOST 1048576: true; the input reads as it did. -/
def fnJointsUptoRow : OpenClaim := { program := "ytlhbjgbkpjlacaa", sum := "d07c9509454a275aa2452e118e80b1b4112cd15295f99f799fdce400b50ba384", func := "loop.example/g01050/laws.FnJoints", spec := "fnJoints", apart := false, narrowed := true }
def FnJointsUptoSaid : Prop := fnJointsUptoRow.holds Try.pinned (OpenSpec.upto fnJointsSpec)

/-- 'laws.FnExactFrontier', WHERE WHAT IT READS IS OF BULK AT MOST 1048576: true; the input reads as it did. -/
def fnExactFrontierUptoRow : OpenClaim := { program := "ytlhbjgbkpjlacaa", sum := "d07c9509454a275aa2452e118e80b1b4112cd15295f99f799fdce400b50ba384", func := "loop.example/g01050/laws.FnExactFrontier", spec := "fnExactFrontier", recurses := true, apart := false, narrowed := true }
def FnExactFrontierUptoSaid : Prop := fnExactFrontierUptoRow.holds Try.pinned (OpenSpec.upto fnExactFrontierSpec)

/-- 'laws.FnFrontier', WHERE WHAT IT READS IS OF BULK AT MOST 1048576: true; the input reads as it did. -/
def fnFrontierUptoRow : OpenClaim := { program := "ytlhbjgbkpjlacaa", sum := "d07c9509454a275aa2452e118e80b1b4112cd15295f99f799fdce400b50ba384", func := "loop.example/g01050/laws.FnFrontier", spec := "fnFrontier", recurses := true, apart := false, narrowed := true }
def FnFrontierUptoSaid : Prop := fnFrontierUptoRow.holds Try.pinned (OpenSpec.upto fnFrontierSpec)

/-- 'laws.FnBicycles', WHERE WHAT IT READS IS OF BULK AT MOST 1048576: true; the input reads as it did. -/
def fnBicyclesUptoRow : OpenClaim := { program := "ytlhbjgbkpjlacaa", sum := "d07c9509454a275aa2452e118e80b1b4112cd15295f99f799fdce400b50ba384", func := "loop.example/g01050/laws.FnBicycles", spec := "fnBicycles", recurses := true, apart := false, narrowed := true }
def FnBicyclesUptoSaid : Prop := fnBicyclesUptoRow.holds Try.pinned (OpenSpec.upto fnBicyclesSpec)

end Rows
end Go.Proofs.Ytlhbjgbkpjlacaa
