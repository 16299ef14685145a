import Derived.KernelRfl
import Derived.Test.YtgghfcchanilpaaGreatDoorAbsTabA
import Derived.Test.YtgghfcchanilpaaGreatDoorAbsE
import Derived.Test.YtgghfcchanilpaaGreatDoorProg
set_option linter.unusedVariables false
set_option linter.unusedSimpArgs false
namespace Go.Proofs.YtgghfcchanilpaaGreatDoor
open Go Go.Abs
theorem Nr : Xw Tryz.prog = true := by kernel_rfl
theorem x5 : VJ Tryz.prog QO = true := by kernel_rfl
theorem H3 : VJ Tryz.prog VW = true := by kernel_rfl
theorem B5 : VJ Tryz.prog MM = true := by kernel_rfl
end Go.Proofs.YtgghfcchanilpaaGreatDoor
namespace Go.Proofs.YtgghfcchanilpaaGreatDoor
open Go Go.Abs
def IT (n : Nat) (r : Res) : Bool :=
 match r with
 | .ret (.sref _ _ _ _ m) => m == n
 | _ => false
theorem wF : Qn (Oq Tryz.prog VW 3000 60) Tryz.prog VW 57 [] [] (fun r _ => IT YD r) = true := by kernel_rfl
theorem wO : Qn (Oq Tryz.prog VW 3000 60) Tryz.prog VW 69 [] [] (fun r _ => IT YD r) = true := by kernel_rfl
theorem xy : Qn (Oq Tryz.prog MM 3000 60) Tryz.prog MM 73 [.list .part [.any]] [] (fun r σ => match r with
  | .ret (.tuple []) => true
  | _ => false) = true := by kernel_rfl
end Go.Proofs.YtgghfcchanilpaaGreatDoor
