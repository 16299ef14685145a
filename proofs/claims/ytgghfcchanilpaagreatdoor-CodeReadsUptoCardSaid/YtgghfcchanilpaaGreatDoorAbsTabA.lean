import Derived.Test.YtgghfcchanilpaaGreatDoorAnn
import Derived.Test.YtgghfcchanilpaaGreatDoorProg
set_option linter.unusedVariables false
set_option linter.unusedSimpArgs false
namespace Go.Proofs.YtgghfcchanilpaaGreatDoor
open Go Go.Abs
mutual
def Oh : PV → Bool
 | .str _ => true
 | .int _ _ => true
 | .bool _ => true
 | .agg cs => LA cs
 | _ => false
def LA : List PV → Bool
 | [] => true
 | x :: l => Oh x && LA l
end
def CS (k : Int) : List UInt8 := if k = 0 then [83,72,79,82,84] else if k = 2 then [76,79,78,71] else []
def SR (s : List UInt8) (k : Int) : List UInt8 := N0 [32] (((Go.Lib.fields s).map fun w => if w = [76] ∨ w = [83] then CS k else if w = [78] then CS (k + 1) else w).filter fun w => !w.isEmpty)
def CA (t : List UInt8) (r : Res) : Bool :=
 match r with
 | .ret (.str u) => u == t
 | _ => false
noncomputable def S1 (s : List UInt8) (k : Int) : Bool := Qn (Oq Tryz.prog MM 3000 60) Tryz.prog MM 214 [.agg (List.replicate 9 .any),.str s,.int .i64 k] [] (fun r _ => CA (SR s k) r)
noncomputable def Mk : List PV → St → Option (PV × St) := fun a σ => match a with
 | [.agg cs,.str s,.int .i64 k] => if cs.length = 9 ∧ S1 s k = true then some (.str (SR s k),σ) else none
 | _ => none
noncomputable def BX (f : FuncId) : Option (List PV → St → Option (PV × St)) := bif Nat.beq f 214 then some Mk else bif Nat.beq f 98 then some Vj else DB f
noncomputable def VW (f : FuncId) : Ann := { BW f with ext := BX f }
end Go.Proofs.YtgghfcchanilpaaGreatDoor
