/- The tables of the standard environment: how long they are, reckoned by the kernel. -/
import Derived.KernelRfl
import Derived.Test.YtgghfcchanilpaaGreatDoorAbsTabA
set_option linter.unusedVariables false
namespace Go.Proofs.YtgghfcchanilpaaGreatDoor
open Go Go.Abs

/-- A row of n. -/
def isRow (n : Nat) (r : Res) : Bool :=
  match r with
  | .ret (.sref _ _ _ _ m) => m == n
  | _ => false

theorem tab57 : bodyC (algB Tryz.prog ann1 3000 60) Tryz.prog ann1 57 [] [] (fun r _ => isRow nIdents r) = true := by kernel_rfl
theorem tab69 : bodyC (algB Tryz.prog ann1 3000 60) Tryz.prog ann1 69 [] [] (fun r _ => isRow nIdents r) = true := by kernel_rfl

end Go.Proofs.YtgghfcchanilpaaGreatDoor
