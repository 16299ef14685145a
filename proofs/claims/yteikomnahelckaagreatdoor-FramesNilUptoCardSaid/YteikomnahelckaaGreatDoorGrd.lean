import Derived.Test.YteikomnahelckaaGreatDoorAbsZ
set_option linter.unusedVariables false
set_option linter.unusedSimpArgs false
namespace Go.Abs
abbrev Str := List UInt8
end Go.Abs
