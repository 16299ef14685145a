import Derived.Test.YteikomnahelckaaGreatDoorAnn
import Derived.Test.YteikomnahelckaaGreatDoorProg
set_option linter.unusedVariables false
set_option linter.unusedSimpArgs false
namespace Go.Proofs.YteikomnahelckaaGreatDoor
open Go Go.Abs
mutual
def plainV : PV → Bool
 | .str _ => true
 | .int _ _ => true
 | .bool _ => true
 | .agg cs => plainL cs
 | _ => false
def plainL : List PV → Bool
 | [] => true
 | x :: l => plainV x && plainL l
end
def lensS (k : Int) : List UInt8 := if k = 0 then [83,72,79,82,84] else if k = 2 then [76,79,78,71] else []
def withS (s : List UInt8) (k : Int) : List UInt8 := joinB [32] (((Go.Lib.fields s).map fun w => if w = [76] ∨ w = [83] then lensS k else if w = [78] then lensS (k + 1) else w).filter fun w => !w.isEmpty)
def isTxt (t : List UInt8) (r : Res) : Bool :=
 match r with
 | .ret (.str u) => u == t
 | _ => false
noncomputable def run206 (s : List UInt8) (k : Int) : Bool := bodyC (algB Tryz.prog ann0 3000 60) Tryz.prog ann0 206 [.agg (List.replicate 9 .any),.str s,.int .i64 k] [] (fun r _ => isTxt (withS s k) r)
noncomputable def ext206 : List PV → St → Option (PV × St) := fun a σ => match a with
 | [.agg cs,.str s,.int .i64 k] => if cs.length = 9 ∧ run206 s k = true then some (.str (withS s k),σ) else none
 | _ => none
noncomputable def ext1 (f : FuncId) : Option (List PV → St → Option (PV × St)) := bif Nat.beq f 206 then some ext206 else bif Nat.beq f 137 then some extFields else ext0 f
noncomputable def ann1 (f : FuncId) : Ann := { annB f with ext := ext1 f }
def nOpers : Nat := 470
def ext2 (f : FuncId) : Option (List PV → St → Option (PV × St)) := bif Nat.beq f 95 then some (extLen nOpers) else ext0 f
def ann2 (f : FuncId) : Ann := { annB f with ext := ext2 f }
end Go.Proofs.YteikomnahelckaaGreatDoor
