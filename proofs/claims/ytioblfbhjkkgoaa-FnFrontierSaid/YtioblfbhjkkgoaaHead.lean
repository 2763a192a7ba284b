/- DERIVED. The program's first word, letter by letter: so that the closed facts of a row are cheap. -/
import Derived.Test.YtioblfbhjkkgoaaRows
import Derived.ProofKit
import Derived.JoinedOf
namespace Go.Proofs.Ytioblfbhjkkgoaa
set_option maxRecDepth 100000
open Go.RowKit Go.ChangeShapes Go.WideShapes Go.ChangeAt

theorem own : ownKnob Try.prog.godebug = none := by kernel_rfl
theorem laidOut : laidOutB Try.prog = true := by kernel_rfl
def initChars : List Char := [Char.ofNat 104, Char.ofNat 97, Char.ofNat 114, Char.ofNat 110, Char.ofNat 101, Char.ofNat 115, Char.ofNat 115, Char.ofNat 32, Char.ofNat 101, Char.ofNat 50, Char.ofNat 53, Char.ofNat 57, Char.ofNat 49, Char.ofNat 50, Char.ofNat 100, Char.ofNat 48, Char.ofNat 97, Char.ofNat 50, Char.ofNat 56, Char.ofNat 51, Char.ofNat 50, Char.ofNat 56, Char.ofNat 102, Char.ofNat 57, Char.ofNat 53, Char.ofNat 51, Char.ofNat 102, Char.ofNat 54, Char.ofNat 51, Char.ofNat 56, Char.ofNat 51, Char.ofNat 102, Char.ofNat 99, Char.ofNat 100, Char.ofNat 51, Char.ofNat 48, Char.ofNat 57, Char.ofNat 101, Char.ofNat 100, Char.ofNat 49, Char.ofNat 56, Char.ofNat 99, Char.ofNat 48, Char.ofNat 56, Char.ofNat 50, Char.ofNat 99, Char.ofNat 54, Char.ofNat 53, Char.ofNat 49, Char.ofNat 100, Char.ofNat 55, Char.ofNat 48, Char.ofNat 50, Char.ofNat 53, Char.ofNat 56, Char.ofNat 102, Char.ofNat 54, Char.ofNat 97, Char.ofNat 57, Char.ofNat 56, Char.ofNat 100, Char.ofNat 57, Char.ofNat 97, Char.ofNat 51, Char.ofNat 49, Char.ofNat 49, Char.ofNat 100, Char.ofNat 55, Char.ofNat 57, Char.ofNat 53, Char.ofNat 99, Char.ofNat 101, Char.ofNat 32, Char.ofNat 99, Char.ofNat 117, Char.ofNat 116, Char.ofNat 32, Char.ofNat 97, Char.ofNat 116, Char.ofNat 32, Char.ofNat 108, Char.ofNat 111, Char.ofNat 111, Char.ofNat 112, Char.ofNat 46, Char.ofNat 101, Char.ofNat 120, Char.ofNat 97, Char.ofNat 109, Char.ofNat 112, Char.ofNat 108, Char.ofNat 101, Char.ofNat 47, Char.ofNat 103, Char.ofNat 48, Char.ofNat 49, Char.ofNat 48, Char.ofNat 53, Char.ofNat 48, Char.ofNat 47, Char.ofNat 108, Char.ofNat 97, Char.ofNat 119, Char.ofNat 115, Char.ofNat 46, Char.ofNat 70, Char.ofNat 110, Char.ofNat 69, Char.ofNat 120, Char.ofNat 97, Char.ofNat 99, Char.ofNat 116, Char.ofNat 70, Char.ofNat 114, Char.ofNat 111, Char.ofNat 110, Char.ofNat 116, Char.ofNat 105, Char.ofNat 101, Char.ofNat 114, Char.ofNat 32, Char.ofNat 108, Char.ofNat 111, Char.ofNat 111, Char.ofNat 112, Char.ofNat 46, Char.ofNat 101, Char.ofNat 120, Char.ofNat 97, Char.ofNat 109, Char.ofNat 112, Char.ofNat 108, Char.ofNat 101, Char.ofNat 47, Char.ofNat 103, Char.ofNat 48, Char.ofNat 49, Char.ofNat 48, Char.ofNat 53, Char.ofNat 48, Char.ofNat 47, Char.ofNat 108, Char.ofNat 97, Char.ofNat 119, Char.ofNat 115, Char.ofNat 46, Char.ofNat 70, Char.ofNat 110, Char.ofNat 70, Char.ofNat 114, Char.ofNat 111, Char.ofNat 110, Char.ofNat 116, Char.ofNat 105, Char.ofNat 101, Char.ofNat 114]
theorem recb (s : String) : @String.rec (fun _ => ByteArray) (fun b _ => b) s = s.toByteArray := by cases s; rfl
theorem chars_bytes : @String.rec (fun _ => ByteArray) (fun b _ => b) Try.prog.initOrder = List.utf8Encode initChars := by kernel_rfl
set_option maxRecDepth 100000 in
theorem initOrder_list : Try.prog.initOrder.toList = initChars := by
  have h : Try.prog.initOrder = String.ofList initChars := String.toByteArray_inj.1 ((recb _).symm.trans (chars_bytes.trans rfl))
  rw [h, String.toList_ofList]
theorem mayEnter_yes : Try.prog.mayEnter = true := by unfold Program.mayEnter; rw [initOrder_list]; kernel_rfl
theorem liftsFinal_no : Try.prog.liftsFinal = false := by unfold Program.liftsFinal Program.headLifts; rw [initOrder_list]; kernel_rfl
theorem make_cut : Try.prog.make = some .cut := by unfold Program.make Program.headLifts; rw [initOrder_list]; kernel_rfl
end Go.Proofs.Ytioblfbhjkkgoaa
