/- A part of the examples' run, reckoned by the kernel. -/
import Derived.Test.YtiniifbmeobmgaaGreatDoorExLit
import Derived.Test.YtiniifbmeobmgaaGreatDoorProg
import Derived.KernelRfl
set_option linter.unusedVariables false
namespace Go.Proofs.YtiniifbmeobmgaaGreatDoor
open Go Go.Abs

theorem exMatch : reckon 23 [exGrammar, exParts, .str [105, 32, 105], .int .i64 5] (.tuple [exBinds, .int .i64 0]) = true := by kernel_rfl
end Go.Proofs.YtiniifbmeobmgaaGreatDoor
