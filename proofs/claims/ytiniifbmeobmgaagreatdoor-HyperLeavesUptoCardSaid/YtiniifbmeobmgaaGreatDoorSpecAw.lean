/- What the chapter's example comes to: made by program (wip/tools/RunEx.lean). -/
import Derived.KernelRfl
import Derived.Test.YtiniifbmeobmgaaGreatDoorAnn
import Derived.Test.YtiniifbmeobmgaaGreatDoorProg
import Derived.Test.YtiniifbmeobmgaaGreatDoorSpcA
import Derived.Test.YtiniifbmeobmgaaGreatDoorFnAw
set_option linter.unusedVariables false
namespace Go.Proofs.YtiniifbmeobmgaaGreatDoor
open Go Go.Abs

def exText : PV := .str [78, 32, 58, 58, 32, 69, 77, 80, 84, 89, 32, 59, 32, 78, 32, 105, 32, 46, 32, 97, 98, 99, 32, 58, 32, 78, 32, 97, 32, 108, 105, 115, 116, 44, 32, 78, 32, 98, 32, 108, 105, 115, 116, 44, 32, 78, 32, 99, 32, 108, 105, 115, 116, 32, 46, 32, 78, 32, 105, 32, 97, 32, 108, 105, 115, 116, 32, 58, 32, 108, 101, 116, 116, 101, 114, 32, 97, 32, 115, 121, 109, 98, 111, 108, 44, 32, 78, 32, 97, 32, 108, 105, 115, 116, 32, 46, 32, 78, 32, 105, 32, 98, 32, 108, 105, 115, 116, 32, 58, 32, 108, 101, 116, 116, 101, 114, 32, 98, 32, 115, 121, 109, 98, 111, 108, 44, 32, 78, 32, 98, 32, 108, 105, 115, 116, 32, 46, 32, 78, 32, 105, 32, 99, 32, 108, 105, 115, 116, 32, 58, 32, 108, 101, 116, 116, 101, 114, 32, 99, 32, 115, 121, 109, 98, 111, 108, 44, 32, 78, 32, 99, 32, 108, 105, 115, 116, 32, 46, 32, 97, 32, 108, 105, 115, 116, 32, 58, 32, 69, 77, 80, 84, 89, 32, 46, 32, 98, 32, 108, 105, 115, 116, 32, 58, 32, 69, 77, 80, 84, 89, 32, 46, 32, 99, 32, 108, 105, 115, 116, 32, 58, 32, 69, 77, 80, 84, 89, 32, 46]
def exGrammar : PV := (.agg [(.list .part [(.agg [(.str [78]), (.list .part [(.list .nil []), (.list .part [(.agg [(.bool true), (.str [78])]), (.agg [(.bool false), (.str [105])])])])])]), (.list .part [(.agg [(.list .part [(.agg [(.bool false), (.str [97, 98, 99])])]), (.list .part [(.list .part [(.agg [(.bool true), (.str [78])]), (.agg [(.bool false), (.str [97])]), (.agg [(.bool false), (.str [108, 105, 115, 116])])]), (.list .part [(.agg [(.bool true), (.str [78])]), (.agg [(.bool false), (.str [98])]), (.agg [(.bool false), (.str [108, 105, 115, 116])])]), (.list .part [(.agg [(.bool true), (.str [78])]), (.agg [(.bool false), (.str [99])]), (.agg [(.bool false), (.str [108, 105, 115, 116])])])])]), (.agg [(.list .part [(.agg [(.bool true), (.str [78])]), (.agg [(.bool false), (.str [105])]), (.agg [(.bool false), (.str [97])]), (.agg [(.bool false), (.str [108, 105, 115, 116])])]), (.list .part [(.list .part [(.agg [(.bool false), (.str [108, 101, 116, 116, 101, 114])]), (.agg [(.bool false), (.str [97])]), (.agg [(.bool false), (.str [115, 121, 109, 98, 111, 108])])]), (.list .part [(.agg [(.bool true), (.str [78])]), (.agg [(.bool false), (.str [97])]), (.agg [(.bool false), (.str [108, 105, 115, 116])])])])]), (.agg [(.list .part [(.agg [(.bool true), (.str [78])]), (.agg [(.bool false), (.str [105])]), (.agg [(.bool false), (.str [98])]), (.agg [(.bool false), (.str [108, 105, 115, 116])])]), (.list .part [(.list .part [(.agg [(.bool false), (.str [108, 101, 116, 116, 101, 114])]), (.agg [(.bool false), (.str [98])]), (.agg [(.bool false), (.str [115, 121, 109, 98, 111, 108])])]), (.list .part [(.agg [(.bool true), (.str [78])]), (.agg [(.bool false), (.str [98])]), (.agg [(.bool false), (.str [108, 105, 115, 116])])])])]), (.agg [(.list .part [(.agg [(.bool true), (.str [78])]), (.agg [(.bool false), (.str [105])]), (.agg [(.bool false), (.str [99])]), (.agg [(.bool false), (.str [108, 105, 115, 116])])]), (.list .part [(.list .part [(.agg [(.bool false), (.str [108, 101, 116, 116, 101, 114])]), (.agg [(.bool false), (.str [99])]), (.agg [(.bool false), (.str [115, 121, 109, 98, 111, 108])])]), (.list .part [(.agg [(.bool true), (.str [78])]), (.agg [(.bool false), (.str [99])]), (.agg [(.bool false), (.str [108, 105, 115, 116])])])])]), (.agg [(.list .part [(.agg [(.bool false), (.str [97])]), (.agg [(.bool false), (.str [108, 105, 115, 116])])]), (.list .nil [])]), (.agg [(.list .part [(.agg [(.bool false), (.str [98])]), (.agg [(.bool false), (.str [108, 105, 115, 116])])]), (.list .nil [])]), (.agg [(.list .part [(.agg [(.bool false), (.str [99])]), (.agg [(.bool false), (.str [108, 105, 115, 116])])]), (.list .nil [])])])])
def exFault : PV := (.agg [(.int .i64 0), (.int .i64 0)])
def exParts : PV := .list .full [.agg [.bool true, .str [78]], .agg [.bool false, .str [105]], .agg [.bool true, .str [78, 49]]]
def exBinds : PV := (.list .part [(.list .part [(.agg [(.str [78]), (.str [])]), (.agg [(.str [78, 49]), (.str [105])])]), (.list .part [(.agg [(.str [78]), (.str [105])]), (.agg [(.str [78, 49]), (.str [])])])])

/-- A run that ends in a value, and in an empty store. -/
noncomputable def reckon (f : FuncId) (args : List PV) (v : PV) : Bool := bodyC (algB Tryz.prog annF 3000 60) Tryz.prog annF f args [] (fun r σ => match r with
  | .ret x => PV.beq x v && beqS σ []
  | _ => false)

theorem ret_of_reckon {f : FuncId} {args : List PV} {v : PV} (h : reckon f args v = true) {R : Res → St → Prop} (hR : R (.ret v) []) : callW Tryz.prog annF f args [] R := by
  refine callW_of_reckoned (R' := R) (fun x σ hx => ?_) h
  cases x with
  | ret x =>
    simp only [Bool.and_eq_true] at hx
    rw [PV.beq_sound _ _ hx.1, beqS_sound _ _ hx.2]
    exact hR
  | pan x => cases hx
end Go.Proofs.YtiniifbmeobmgaaGreatDoor

/- A part of the examples' run, reckoned by the kernel. -/
set_option linter.unusedVariables false
namespace Go.Proofs.YtiniifbmeobmgaaGreatDoor
open Go Go.Abs

theorem exRead : reckon 20 [exText] (.tuple [exGrammar, exFault]) = true := by kernel_rfl
end Go.Proofs.YtiniifbmeobmgaaGreatDoor

/- A part of the examples' run, reckoned by the kernel. -/
set_option linter.unusedVariables false
namespace Go.Proofs.YtiniifbmeobmgaaGreatDoor
open Go Go.Abs

theorem exYes : reckon 18 [exGrammar, .str [78], .str [105, 32, 105]] (.tuple [.bool true, .int .i64 0]) = true := by kernel_rfl
end Go.Proofs.YtiniifbmeobmgaaGreatDoor

/- A part of the examples' run, reckoned by the kernel. -/
set_option linter.unusedVariables false
namespace Go.Proofs.YtiniifbmeobmgaaGreatDoor
open Go Go.Abs

theorem exNo : reckon 18 [exGrammar, .str [78], .str [97]] (.tuple [.bool false, .int .i64 0]) = true := by kernel_rfl
end Go.Proofs.YtiniifbmeobmgaaGreatDoor

/- A part of the examples' run, reckoned by the kernel. -/
set_option linter.unusedVariables false
namespace Go.Proofs.YtiniifbmeobmgaaGreatDoor
open Go Go.Abs

theorem exMatch : reckon 23 [exGrammar, exParts, .str [105, 32, 105], .int .i64 5] (.tuple [exBinds, .int .i64 0]) = true := by kernel_rfl
end Go.Proofs.YtiniifbmeobmgaaGreatDoor

/- The examples' run gives true. -/
set_option linter.unusedVariables false
set_option linter.unusedSimpArgs false
namespace Go.Proofs.YtiniifbmeobmgaaGreatDoor
open Go Go.Abs

theorem neq_bind (a b : Bind) : vBin (some (.st [.str, .str])) .neq (pvBind a) (pvBind b) = some (.bool !(a == b)) := by
  obtain ⟨n, v⟩ := a
  obtain ⟨m, w⟩ := b
  show (match vEqL [.str, .str] [.str n, .str v] [.str m, .str w] with | some b => some (PV.bool !b) | none => none) = _
  simp only [vEqL, vEqS]
  have : ((n, v) == (m, w)) = ((n == m) && (v == w)) := rfl
  rw [this]
  cases n == m <;> cases v == w <;> rfl

theorem c48 {a b : List Bind} (hl : a.length < 4611686018427387904) {k k' : LK} {σ : St} (hab : a.length = b.length) (h : a = b) : Ret W 48 [.list k (a.map pvBind), .list k' (b.map pvBind)] σ (.bool true) := by
  subst h
  refine ret_of fun R hR => ?_
  rw [fn48_eq]
  unfold fn48
  simp only [List.length_map, bne_self_eq_false, zz, Nat.reduceEqDiff]
  refine Lfp_up a.length (fun i x σ' => x = lookP [(0, .list k (a.map pvBind)), (1, .list k' (a.map pvBind)), (12, .int .i64 a.length), (13, .int .i64 i)] ∧ σ' = σ) ?_ ⟨rfl, rfl⟩
  rintro Φ i x σ' hi ⟨rfl, rfl⟩ next
  simp only [zz, Nat.reduceEqDiff]
  by_cases hlt : i < a.length
  · have hc : a[i]? = some a[i] := by simp [hlt]
    simp only [hlt, encBind.index hc, encBind.part, neq_bind, BEq.rfl, zz, Nat.reduceEqDiff]
    rw [vBin_add _ (by omega) (by omega)]
    exact next _ _ hlt ⟨by simp, rfl⟩
  · simp only [hlt, zz, Nat.reduceEqDiff]
    exact weakW_keep hR

theorem c13 : Ret W 13 [] [] (.bool true) := by
  refine ret_of fun R hR => ?_
  rw [fn13_eq]
  unfold fn13
  have r1 : Ret W 20 [exText] [] (.tuple [exGrammar, exFault]) := fun R h => ret_of_reckon exRead h
  have r2 : Ret W 18 [exGrammar, .str [78], .str [105, 32, 105]] [] (.tuple [.bool true, .int .i64 0]) := fun R h => ret_of_reckon exYes h
  have r3 : Ret W 18 [exGrammar, .str [78], .str [97]] [] (.tuple [.bool false, .int .i64 0]) := fun R h => ret_of_reckon exNo h
  have r4 : Ret W 23 [exGrammar, exParts, .str [105, 32, 105], .int .i64 5] [] (.tuple [exBinds, .int .i64 0]) := fun R h => ret_of_reckon exMatch h
  obtain ⟨m, rs, hg, h7⟩ : ∃ m rs, exGrammar = .agg [m, .list .part rs] ∧ rs.length = 7 := ⟨_, _, rfl, rfl⟩
  rw [hg] at r1 r2 r3 r4
  refine Ret.callB r1 ?_
  have p1 : vPut 2 (.agg [.list .nil [], .list .nil []]) 0 (.agg [m, .list .part rs]) = some (.agg [m, .list .part rs]) := rfl
  have p2 : vPut 2 (.agg [.int .i64 0, .int .i64 0]) 0 exFault = some (.agg [.int .i64 0, .int .i64 0]) := rfl
  simp only [p1, p2, zz, Nat.reduceEqDiff]
  refine Ret.callB r2 ?_
  simp only [zz, Nat.reduceEqDiff]
  refine Ret.callB r3 ?_
  have b1 : vBuild [.bool false, .str []] [(0, 1, .bool true), (1, 1, .str [78])] = some [.bool true, .str [78]] := rfl
  have b2 : vBuild [.bool false, .str []] [(1, 1, .str [105])] = some [.bool false, .str [105]] := rfl
  have b3 : vBuild [.bool false, .str []] [(0, 1, .bool true), (1, 1, .str [78, 49])] = some [.bool true, .str [78, 49]] := rfl
  have b4 : vBuildSl 2 (List.replicate 3 (.agg [.bool false, .str []])) [(0, .agg [.bool true, .str [78]]), (1, .agg [.bool false, .str [105]]), (2, .agg [.bool true, .str [78, 49]])] = some [.agg [.bool true, .str [78]], .agg [.bool false, .str [105]], .agg [.bool true, .str [78, 49]]] := rfl
  simp only [b1, b2, b3, b4, zz, Nat.reduceEqDiff]
  refine Ret.callB r4 ?_
  have b5 : vBuild [.int .i64 0, .int .i64 0] [] = some [.int .i64 0, .int .i64 0] := rfl
  have e1 : vBin (some (.st [.int, .int])) .eql (.agg [.int .i64 0, .int .i64 0]) (.agg [.int .i64 0, .int .i64 0]) = some (.bool true) := rfl
  have hpart : vPart false 1 (.list .part rs) 0 = some (.list .part rs) := rfl
  obtain ⟨l1, hb⟩ : ∃ l1, exBinds = .list .part [l1, .list .part ([([78], [105]), ([78, 49], [])].map pvBind)] := ⟨_, rfl⟩
  simp only [hb, b5, e1, h7, zz, Nat.reduceEqDiff]
  have i1 : vIndex 1 (.list .part [l1, .list .part ([([78], [105]), ([78, 49], [])].map pvBind)]) (.int .i64 1) = some (.eptr (.list .part ([([78], [105]), ([78, 49], [])].map pvBind)) 0) := rfl
  have b6 : vBuild [.str [], .str []] [(0, 1, .str [78]), (1, 1, .str [105])] = some [.str [78], .str [105]] := rfl
  have b7 : vBuild [.str [], .str []] [(0, 1, .str [78, 49])] = some [.str [78, 49], .str []] := rfl
  have b8 : vBuildSl 2 (List.replicate 2 (.agg [.str [], .str []])) [(0, .agg [.str [78], .str [105]]), (1, .agg [.str [78, 49], .str []])] = some ([([78], [105]), ([78, 49], [])].map pvBind) := rfl
  have a1 : vBin none .add (.int .i64 0) (.int .i64 0) = some (.int .i64 0) := rfl
  simp only [List.length_cons, List.length_nil, i1, b6, b7, b8, a1, BEq.rfl, zz, Nat.reduceEqDiff]
  refine (c48 (k := .part) (k' := .full) (by decide) rfl rfl).callB ?_
  simp only [zz, Nat.reduceEqDiff]
  exact weakW_keep hR

end Go.Proofs.YtiniifbmeobmgaaGreatDoor
