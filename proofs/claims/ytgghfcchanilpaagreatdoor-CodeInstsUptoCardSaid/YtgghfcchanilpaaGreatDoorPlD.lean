/- Programs as plain data, and what is right of them: plain words. No program in it. -/
import Derived.Test.YtgghfcchanilpaaGreatDoorPlC
set_option linter.unusedVariables false
set_option linter.unusedSimpArgs false
namespace Go.Abs

abbrev Sl (α : Type) := LK × List α
def len {α : Type} (l : Sl α) : Int := (l.2.length : Int)
def inS (n most : Int) : Bool := decide (n ≥ 0) && decide (n < most)
/-! ### Limits -/

/-! ### Maps, unions, signatures -/

end Go.Abs
