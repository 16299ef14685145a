import Derived.Defers
set_option linter.unusedVariables false
set_option linter.unusedSimpArgs false
namespace Go.Abs
inductive LK where
 | nil | full | part
 deriving DecidableEq,Inhabited
inductive PV where
 | any
 | bool (b : Bool)
 | int (k : IntKind) (n : Int)
 | str (l : List UInt8)
 | nilptr
 | ptr (b g i off : Nat)
 | eptr (e : PV) (off : Nat)
 | list (k : LK) (xs : List PV)
 | sref (b g sz off len : Nat)
 | nilmap
 | mref (b : Nat)
 | func (f : FuncId) (k : Nat) (cap : List PV)
 | nilfunc
 | iface (t : TypeId) (v : PV)
 | nilIface
 | agg (cs : List PV)
 | tuple (vs : List PV)
 deriving Inhabited
def cvPure (s d : TypeId) : Bool := !((s == 51 && d == 9) || (s == 9 && d == 51) || (s == 51 && d == 51))
def cvRead (s d : TypeId) : Bool := s == 51 && d == 9
def kindsPV : List PV := [0,0,1,2,4,3,5,6,7,8,9,0,10,11].map fun n : Int => PV.int .i64 n
def lensPV : List PV := [[83,72,79,82,84],[],[76,79,78,71]].map PV.str
def spacePV : List PV := [0,0,0,0,0,0,0,0,0,1,1,1,1,1,0,0,0,0,0,0,0,0,0,0,0,0,0,0,0,0,0,0,1,0,0,0,0,0,0,0,0,0,0,0,0,0,0,0,0,0,0,0,0,0,0,0,0,0,0,0,0,0,0,0,0,0,0,0,0,0,0,0,0,0,0,0,0,0,0,0,0,0,0,0,0,0,0,0,0,0,0,0,0,0,0,0,0,0,0,0,0,0,0,0,0,0,0,0,0,0,0,0,0,0,0,0,0,0,0,0,0,0,0,0,0,0,0,0,0,0,0,0,0,0,0,0,0,0,0,0,0,0,0,0,0,0,0,0,0,0,0,0,0,0,0,0,0,0,0,0,0,0,0,0,0,0,0,0,0,0,0,0,0,0,0,0,0,0,0,0,0,0,0,0,0,0,0,0,0,0,0,0,0,0,0,0,0,0,0,0,0,0,0,0,0,0,0,0,0,0,0,0,0,0,0,0,0,0,0,0,0,0,0,0,0,0,0,0,0,0,0,0,0,0,0,0,0,0,0,0,0,0,0,0,0,0,0,0,0,0,0,0,0,0,0,0].map fun n : Int => PV.int .u8 n
def globPV : Nat → PV
 | 0 => .eptr (.agg kindsPV) 0
 | 1 => .eptr (.agg lensPV) 0
 | 2 => .eptr (.agg spacePV) 0
 | _ => .any
end Go.Abs
