import Derived.KernelRfl
import Derived.Test.YteikomnahelckaaGreatDoorAbsTabA
import Derived.Test.YteikomnahelckaaGreatDoorAbsE
import Derived.Test.YteikomnahelckaaGreatDoorProg
set_option linter.unusedVariables false
set_option linter.unusedSimpArgs false
namespace Go.Proofs.YteikomnahelckaaGreatDoor
open Go Go.Abs
theorem namesOk : goodNames Tryz.prog = true := by kernel_rfl
theorem annOk : progOk Tryz.prog annF = true := by kernel_rfl
theorem ann2k : progOk Tryz.prog ann2 = true := by kernel_rfl
theorem ann1k : progOk Tryz.prog ann1 = true := by kernel_rfl
theorem ann0k : progOk Tryz.prog ann0 = true := by kernel_rfl
end Go.Proofs.YteikomnahelckaaGreatDoor
namespace Go.Proofs.YteikomnahelckaaGreatDoor
open Go Go.Abs
theorem awakeB : bodyC (algB Tryz.prog ann2 3000 60) Tryz.prog ann2 8 [] [] (fun r σ => match r with
  | .ret (.bool true) => beqS σ []
  | _ => false) = true := by kernel_rfl
end Go.Proofs.YteikomnahelckaaGreatDoor
