/- Plain words on decimal numerals and on texts cut at a byte. No program in it. -/
import Derived.Lib.AtoiAllCases
import Derived.Lib.ParseIntBTie
import Derived.Test.YtgghfcchanilpaaGreatDoorAbsExt
set_option linter.unusedVariables false
set_option linter.unusedSimpArgs false
namespace Go.Abs
open Go.Lib

theorem any_cons_false {α : Type} {q : α → Bool} {l : List α} {i : Nat} {a : α} (hp : (l.take i).any q = false) (h : l[i]? = some a) (hq : q a = false) : (l.take (i + 1)).any q = false := by
  rw [List.take_add_one, h, List.any_append, hp]
  simp [hq]

theorem any_of_get {α : Type} {q : α → Bool} {l : List α} {i : Nat} {a : α} (h : l[i]? = some a) (hq : q a = true) : l.any q = true := List.any_eq_true.2 ⟨a, List.mem_of_getElem? h, hq⟩

/-! ### Texts cut at a byte -/

end Go.Abs
