/- The notes fit the program. -/
import Derived.KernelRfl
import Derived.Test.YtgghfcchanilpaaGreatDoorAbsTabA
import Derived.Test.YtgghfcchanilpaaGreatDoorAbsE
import Derived.Test.YtgghfcchanilpaaGreatDoorProg
set_option linter.unusedVariables false
namespace Go.Proofs.YtgghfcchanilpaaGreatDoor
open Go Go.Abs

theorem namesOk : goodNames Tryz.prog = true := by kernel_rfl
theorem annOk : progOk Tryz.prog annF = true := by kernel_rfl
theorem ann1k : progOk Tryz.prog ann1 = true := by kernel_rfl
theorem ann0k : progOk Tryz.prog ann0 = true := by kernel_rfl

end Go.Proofs.YtgghfcchanilpaaGreatDoor
