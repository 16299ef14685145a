/- Numbers, texts and instructions as arguments of this seat's rows. -/
import Derived.Test.YtgghfcchanilpaaGreatDoorRowKit31
import Derived.Test.YtgghfcchanilpaaGreatDoorAbsArgs
import Derived.Test.YtgghfcchanilpaaGreatDoorPlB
set_option linter.unusedVariables false
set_option linter.unusedSimpArgs false
namespace Go.Proofs.YtgghfcchanilpaaGreatDoor
open Go Go.Abs Go.ChangeShapes Go.WideShapes Go.ChangeAt Go.RowKit

section
variable {H : Type} {encH : TypeId × Value → H} {W : World}

abbrev dStr (s : Str) (d : DataW H) : Prop := d = .lit (.string s)
theorem oStr : Opens encH Tryz.prog W PV.str dStr 9 1 := opens_str Tryz.underlying9 (by kernel_rfl)
end

end Go.Proofs.YtgghfcchanilpaaGreatDoor
