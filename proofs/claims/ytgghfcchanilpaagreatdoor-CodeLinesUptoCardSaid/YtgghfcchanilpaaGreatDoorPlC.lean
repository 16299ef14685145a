/- The text of an instruction read exactly, word by word: it comes to the same as what is read loosely and written again. No program in it. -/
import Derived.Test.YtgghfcchanilpaaGreatDoorPlB
set_option linter.unusedVariables false
set_option linter.unusedSimpArgs false
namespace Go.Abs
open Go.Lib

def zeroI : InstS := ⟨0, ⟨0, 0, 0⟩, ⟨0, 0, 0⟩, ⟨0, 0, 0⟩, 0, 0⟩

theorem atoi_in {s : Str} : inI64 (numS s) = true := by
  unfold numS
  cases h : atoiAll s with
  | ok v =>
    have := atoiAll_bounds h
    exact inI64_of this.1 this.2
  | range =>
    have := atoiSat_bounds s
    exact inI64_of this.1 this.2
  | _ => exact (by decide : inI64 0 = true)

theorem read_in {s : Str} : (readS s).ok = true := by
  unfold readS
  split
  · simp only [OperS.ok, atoi_in, Bool.and_true]
    split
    · decide
    · split <;> decide
  · decide

end Go.Abs
