import Derived.KernelRfl
import Derived.Test.YteikomnahelckaaGreatDoorAbsTabA
import Derived.Test.YteikomnahelckaaGreatDoorProg
set_option linter.unusedVariables false
set_option linter.unusedSimpArgs false
namespace Go.Proofs.YteikomnahelckaaGreatDoor
open Go Go.Abs
theorem awakeB : bodyC (algB Tryz.prog ann2 3000 60) Tryz.prog ann2 8 [] [] (fun r σ => match r with
  | .ret (.bool true) => beqS σ []
  | _ => false) = true := by kernel_rfl
end Go.Proofs.YteikomnahelckaaGreatDoor
