import Derived.Test.YteikomnahelckaaGreatDoorAbsZ
import Derived.Test.YteikomnahelckaaGreatDoorGrd
set_option linter.unusedVariables false
set_option linter.unusedSimpArgs false
namespace Go.Abs
abbrev Sl (α : Type) := LK × List α
def pvSl {α : Type} (enc : α → PV) (l : Sl α) : PV := .list l.1 (l.2.map enc)
structure SlotS where
 kind : Int
 size : Int
 map : Int
 dims : Int
 flex : Bool
 deriving DecidableEq
def pvSlot (s : SlotS) : PV := .agg [.int .i64 s.kind,.int .i64 s.size,.int .i64 s.map,.int .i64 s.dims,.bool s.flex]
end Go.Abs
