import Derived.Test.YteikomnahelckaaGreatDoorRowKit30
import Derived.Test.YteikomnahelckaaGreatDoorJF
set_option linter.unusedVariables false
set_option linter.unusedSimpArgs false
namespace Go.Proofs.YteikomnahelckaaGreatDoor
open Go Go.Abs Go.RowKit
theorem jj3 : (mapsRowed Tryz.prog) = true := by kernel_rfl
theorem jj6 : ((Rows.framesNilUptoRow.stops == [])) = true := by kernel_rfl
theorem jj7 : ((Tryz.prog.stops == [])) = true := by kernel_rfl
theorem jj8 : ((Rows.framesNilUptoRow.knobs == [])) = true := by kernel_rfl
theorem jj9 : ((Tryz.prog.stopKnobs == [])) = true := by kernel_rfl
theorem jj23 : ((Rows.framesNilUptoRow.plainKeys == Tryz.prog.plainKeys)) = true := by kernel_rfl
theorem jj24 : (Rows.framesNilUptoRow.shortTexts.isNone) = true := by kernel_rfl
theorem jj25 : (Tryz.prog.stopsHeard) = true := by kernel_rfl
theorem jj26 : (Tryz.prog.mayEnter) = true := by kernel_rfl
theorem jj27 : ((Rows.framesNilUptoRow.lifted == Tryz.prog.liftsFinal)) = true := by kernel_rfl
theorem jj28 : ((Tryz.prog.make == some Rows.framesNilUptoRow.make)) = true := by kernel_rfl
end Go.Proofs.YteikomnahelckaaGreatDoor
