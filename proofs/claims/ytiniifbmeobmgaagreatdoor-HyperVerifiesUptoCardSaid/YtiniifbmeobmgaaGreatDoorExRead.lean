/- A part of the examples' run, reckoned by the kernel. -/
import Derived.Test.YtiniifbmeobmgaaGreatDoorExLit
import Derived.Test.YtiniifbmeobmgaaGreatDoorProg
import Derived.KernelRfl
set_option linter.unusedVariables false
namespace Go.Proofs.YtiniifbmeobmgaaGreatDoor
open Go Go.Abs

theorem exRead : reckon 20 [exText] (.tuple [exGrammar, exFault]) = true := by kernel_rfl
end Go.Proofs.YtiniifbmeobmgaaGreatDoor
