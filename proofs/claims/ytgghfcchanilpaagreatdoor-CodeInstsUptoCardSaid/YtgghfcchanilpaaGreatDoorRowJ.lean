/- What the rows of this seat ask of the program alone. -/
import Derived.Test.YtgghfcchanilpaaGreatDoorRowKit31
import Derived.Test.YtgghfcchanilpaaGreatDoorJF
set_option linter.unusedVariables false
namespace Go.Proofs.YtgghfcchanilpaaGreatDoor
open Go Go.Abs Go.RowKit

theorem jj3 : (mapsRowed Tryz.prog) = true := by kernel_rfl
theorem jj6 : ((Rows.codeNamesUptoRow.stops == [])) = true := by kernel_rfl
theorem jj7 : ((Tryz.prog.stops == [])) = true := by kernel_rfl
theorem jj8 : ((Rows.codeNamesUptoRow.knobs == [])) = true := by kernel_rfl
theorem jj9 : ((Tryz.prog.stopKnobs == [])) = true := by kernel_rfl
theorem jj23 : ((Rows.codeNamesUptoRow.plainKeys == Tryz.prog.plainKeys)) = true := by kernel_rfl
theorem jj24 : (Rows.codeNamesUptoRow.shortTexts.isNone) = true := by kernel_rfl
theorem jj25 : (Tryz.prog.stopsHeard) = true := by kernel_rfl
theorem jj26 : (Tryz.prog.mayEnter) = true := by kernel_rfl
theorem jj27 : ((Rows.codeNamesUptoRow.lifted == Tryz.prog.liftsFinal)) = true := by kernel_rfl
theorem jj28 : ((Tryz.prog.make == some Rows.codeNamesUptoRow.make)) = true := by kernel_rfl

end Go.Proofs.YtgghfcchanilpaaGreatDoor
