/- A part of the examples' run, reckoned by the kernel. -/
import Derived.Test.YtiniifbmeobmgaaGreatDoorExLit
import Derived.Test.YtiniifbmeobmgaaGreatDoorProg
import Derived.KernelRfl
set_option linter.unusedVariables false
namespace Go.Proofs.YtiniifbmeobmgaaGreatDoor
open Go Go.Abs

theorem exYes : reckon 18 [exGrammar, .str [78], .str [105, 32, 105]] (.tuple [.bool true, .int .i64 0]) = true := by kernel_rfl
end Go.Proofs.YtiniifbmeobmgaaGreatDoor
