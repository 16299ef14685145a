/- The examples' run, reckoned by the kernel. -/
import Derived.KernelRfl
import Derived.Test.YtgghfcchanilpaaGreatDoorAnn
import Derived.Test.YtgghfcchanilpaaGreatDoorProg
set_option linter.unusedVariables false
namespace Go.Proofs.YtgghfcchanilpaaGreatDoor
open Go Go.Abs

theorem awakeB : bodyC (algB Tryz.prog annF 3000 60) Tryz.prog annF 12 [] [] (fun r σ => match r with
    | .ret (.bool true) => beqS σ []
    | _ => false) = true := by kernel_rfl

end Go.Proofs.YtgghfcchanilpaaGreatDoor
