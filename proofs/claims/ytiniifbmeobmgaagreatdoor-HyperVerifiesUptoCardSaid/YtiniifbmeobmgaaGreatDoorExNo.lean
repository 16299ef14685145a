/- A part of the examples' run, reckoned by the kernel. -/
import Derived.Test.YtiniifbmeobmgaaGreatDoorExLit
import Derived.Test.YtiniifbmeobmgaaGreatDoorProg
import Derived.KernelRfl
set_option linter.unusedVariables false
namespace Go.Proofs.YtiniifbmeobmgaaGreatDoor
open Go Go.Abs

theorem exNo : reckon 18 [exGrammar, .str [78], .str [97]] (.tuple [.bool false, .int .i64 0]) = true := by kernel_rfl
end Go.Proofs.YtiniifbmeobmgaaGreatDoor
