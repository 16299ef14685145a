/- The notes fit the program. -/
import Derived.KernelRfl
import Derived.Test.YtiniifbmeobmgaaGreatDoorAnn
import Derived.Test.YtiniifbmeobmgaaGreatDoorAbsE
import Derived.Test.YtiniifbmeobmgaaGreatDoorProg
set_option linter.unusedVariables false
namespace Go.Proofs.YtiniifbmeobmgaaGreatDoor
open Go Go.Abs

theorem namesOk : goodNames Tryz.prog = true := by kernel_rfl
theorem annOk : progOk Tryz.prog annF = true := by kernel_rfl

end Go.Proofs.YtiniifbmeobmgaaGreatDoor
