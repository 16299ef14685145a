import Derived.KernelRfl
import Derived.Test.YtgghfcchanilpaaGreatDoorAbsTabA
import Derived.Test.YtgghfcchanilpaaGreatDoorAbsE
import Derived.Test.YtgghfcchanilpaaGreatDoorProg
set_option linter.unusedVariables false
set_option linter.unusedSimpArgs false
namespace Go.Proofs.YtgghfcchanilpaaGreatDoor
open Go Go.Abs
theorem namesOk : goodNames Tryz.prog = true := by kernel_rfl
theorem annOk : progOk Tryz.prog annF = true := by kernel_rfl
theorem ann1k : progOk Tryz.prog ann1 = true := by kernel_rfl
theorem ann0k : progOk Tryz.prog ann0 = true := by kernel_rfl
end Go.Proofs.YtgghfcchanilpaaGreatDoor
namespace Go.Proofs.YtgghfcchanilpaaGreatDoor
open Go Go.Abs
def isRow (n : Nat) (r : Res) : Bool :=
 match r with
 | .ret (.sref _ _ _ _ m) => m == n
 | _ => false
theorem tab57 : bodyC (algB Tryz.prog ann1 3000 60) Tryz.prog ann1 57 [] [] (fun r _ => isRow nIdents r) = true := by kernel_rfl
theorem tab69 : bodyC (algB Tryz.prog ann1 3000 60) Tryz.prog ann1 69 [] [] (fun r _ => isRow nIdents r) = true := by kernel_rfl
theorem sort1 : bodyC (algB Tryz.prog ann0 3000 60) Tryz.prog ann0 73 [.list .part [.any]] [] (fun r σ => match r with
  | .ret (.tuple []) => true
  | _ => false) = true := by kernel_rfl
end Go.Proofs.YtgghfcchanilpaaGreatDoor
