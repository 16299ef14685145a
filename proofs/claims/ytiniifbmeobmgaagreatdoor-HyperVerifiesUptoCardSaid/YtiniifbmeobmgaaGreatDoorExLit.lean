/- What the chapter's example comes to: made by program (wip/tools/RunEx.lean). -/
import Derived.Test.YtiniifbmeobmgaaGreatDoorAnn
import Derived.Test.YtiniifbmeobmgaaGreatDoorProg
import Derived.KernelRfl
set_option linter.unusedVariables false
namespace Go.Proofs.YtiniifbmeobmgaaGreatDoor
open Go Go.Abs

def exText : PV := .str [78, 32, 58, 58, 32, 69, 77, 80, 84, 89, 32, 59, 32, 78, 32, 105, 32, 46, 32, 97, 98, 99, 32, 58, 32, 78, 32, 97, 32, 108, 105, 115, 116, 44, 32, 78, 32, 98, 32, 108, 105, 115, 116, 44, 32, 78, 32, 99, 32, 108, 105, 115, 116, 32, 46, 32, 78, 32, 105, 32, 97, 32, 108, 105, 115, 116, 32, 58, 32, 108, 101, 116, 116, 101, 114, 32, 97, 32, 115, 121, 109, 98, 111, 108, 44, 32, 78, 32, 97, 32, 108, 105, 115, 116, 32, 46, 32, 78, 32, 105, 32, 98, 32, 108, 105, 115, 116, 32, 58, 32, 108, 101, 116, 116, 101, 114, 32, 98, 32, 115, 121, 109, 98, 111, 108, 44, 32, 78, 32, 98, 32, 108, 105, 115, 116, 32, 46, 32, 78, 32, 105, 32, 99, 32, 108, 105, 115, 116, 32, 58, 32, 108, 101, 116, 116, 101, 114, 32, 99, 32, 115, 121, 109, 98, 111, 108, 44, 32, 78, 32, 99, 32, 108, 105, 115, 116, 32, 46, 32, 97, 32, 108, 105, 115, 116, 32, 58, 32, 69, 77, 80, 84, 89, 32, 46, 32, 98, 32, 108, 105, 115, 116, 32, 58, 32, 69, 77, 80, 84, 89, 32, 46, 32, 99, 32, 108, 105, 115, 116, 32, 58, 32, 69, 77, 80, 84, 89, 32, 46]
def exGrammar : PV := (.agg [(.list .part [(.agg [(.str [78]), (.list .part [(.list .nil []), (.list .part [(.agg [(.bool true), (.str [78])]), (.agg [(.bool false), (.str [105])])])])])]), (.list .part [(.agg [(.list .part [(.agg [(.bool false), (.str [97, 98, 99])])]), (.list .part [(.list .part [(.agg [(.bool true), (.str [78])]), (.agg [(.bool false), (.str [97])]), (.agg [(.bool false), (.str [108, 105, 115, 116])])]), (.list .part [(.agg [(.bool true), (.str [78])]), (.agg [(.bool false), (.str [98])]), (.agg [(.bool false), (.str [108, 105, 115, 116])])]), (.list .part [(.agg [(.bool true), (.str [78])]), (.agg [(.bool false), (.str [99])]), (.agg [(.bool false), (.str [108, 105, 115, 116])])])])]), (.agg [(.list .part [(.agg [(.bool true), (.str [78])]), (.agg [(.bool false), (.str [105])]), (.agg [(.bool false), (.str [97])]), (.agg [(.bool false), (.str [108, 105, 115, 116])])]), (.list .part [(.list .part [(.agg [(.bool false), (.str [108, 101, 116, 116, 101, 114])]), (.agg [(.bool false), (.str [97])]), (.agg [(.bool false), (.str [115, 121, 109, 98, 111, 108])])]), (.list .part [(.agg [(.bool true), (.str [78])]), (.agg [(.bool false), (.str [97])]), (.agg [(.bool false), (.str [108, 105, 115, 116])])])])]), (.agg [(.list .part [(.agg [(.bool true), (.str [78])]), (.agg [(.bool false), (.str [105])]), (.agg [(.bool false), (.str [98])]), (.agg [(.bool false), (.str [108, 105, 115, 116])])]), (.list .part [(.list .part [(.agg [(.bool false), (.str [108, 101, 116, 116, 101, 114])]), (.agg [(.bool false), (.str [98])]), (.agg [(.bool false), (.str [115, 121, 109, 98, 111, 108])])]), (.list .part [(.agg [(.bool true), (.str [78])]), (.agg [(.bool false), (.str [98])]), (.agg [(.bool false), (.str [108, 105, 115, 116])])])])]), (.agg [(.list .part [(.agg [(.bool true), (.str [78])]), (.agg [(.bool false), (.str [105])]), (.agg [(.bool false), (.str [99])]), (.agg [(.bool false), (.str [108, 105, 115, 116])])]), (.list .part [(.list .part [(.agg [(.bool false), (.str [108, 101, 116, 116, 101, 114])]), (.agg [(.bool false), (.str [99])]), (.agg [(.bool false), (.str [115, 121, 109, 98, 111, 108])])]), (.list .part [(.agg [(.bool true), (.str [78])]), (.agg [(.bool false), (.str [99])]), (.agg [(.bool false), (.str [108, 105, 115, 116])])])])]), (.agg [(.list .part [(.agg [(.bool false), (.str [97])]), (.agg [(.bool false), (.str [108, 105, 115, 116])])]), (.list .nil [])]), (.agg [(.list .part [(.agg [(.bool false), (.str [98])]), (.agg [(.bool false), (.str [108, 105, 115, 116])])]), (.list .nil [])]), (.agg [(.list .part [(.agg [(.bool false), (.str [99])]), (.agg [(.bool false), (.str [108, 105, 115, 116])])]), (.list .nil [])])])])
def exFault : PV := (.agg [(.int .i64 0), (.int .i64 0)])
def exParts : PV := .list .full [.agg [.bool true, .str [78]], .agg [.bool false, .str [105]], .agg [.bool true, .str [78, 49]]]
def exBinds : PV := (.list .part [(.list .part [(.agg [(.str [78]), (.str [])]), (.agg [(.str [78, 49]), (.str [105])])]), (.list .part [(.agg [(.str [78]), (.str [105])]), (.agg [(.str [78, 49]), (.str [])])])])

/-- A run that ends in a value, and in an empty store. -/
noncomputable def reckon (f : FuncId) (args : List PV) (v : PV) : Bool := bodyC (algB Tryz.prog annF 3000 60) Tryz.prog annF f args [] (fun r σ => match r with
  | .ret x => PV.beq x v && beqS σ []
  | _ => false)

theorem ret_of_reckon {f : FuncId} {args : List PV} {v : PV} (h : reckon f args v = true) {R : Res → St → Prop} (hR : R (.ret v) []) : callW Tryz.prog annF f args [] R := by
  refine callW_of_reckoned (R' := R) (fun x σ hx => ?_) h
  cases x with
  | ret x =>
    simp only [Bool.and_eq_true] at hx
    rw [PV.beq_sound _ _ hx.1, beqS_sound _ _ hx.2]
    exact hR
  | pan x => cases hx
end Go.Proofs.YtiniifbmeobmgaaGreatDoor
