/- PROVED HERE: for any number and any list of slots (of bulk at most 1048576), the law FramesNil returns true and leaves its arguments as they were: a nil layout answers as the definition says, and the examples of the document hold. The program's own code is run by the model (the examples by a closed run of it in the kernel); strconv.Itoa and FormatBool, strings.Split, ReplaceAll, Fields and Join and strings.Builder by the kit's contracts. -/
import Derived.Test.YteikomnahelckaaGreatDoorLawNilA
set_option linter.unusedVariables false
set_option linter.unusedSimpArgs false
namespace Go.Proofs.YteikomnahelckaaGreatDoor.framesNil
open Go Go.Abs Go.ChangeShapes Go.WideShapes Go.ChangeAt Go.RowKit
theorem saidUpto : Rows.FramesNilUptoSaid :=
  OpenClaim.holds_of_cond 7 Tryz.f7 rfl rfl rfl rfl rfl rfl rfl ⟨rfl, rfl, rfl, rfl, rfl⟩ rfl rfl rfl rfl rfl (by kernel_rfl) Tryz.func7 closed hinst hwrap
    (fun os started H enc _ F => by rw [OpenClaim.pre_eq_preRow]; exact lifted os started H enc F)
theorem plain (f : FuncId) (fn : Func) (hf : Tryz.pinned.checked.prog.funcNamed "environ/environlaw30.FramesNil" = some f) (hfn : Tryz.pinned.checked.prog.funcs[f]? = some fn) :
    false = Tryz.pinned.checked.prog.looks [] ∧ ∀ (j : Nat) t, fn.params[j]? = some t → Tryz.pinned.checked.prog.wantsStandIn t = false := by
  obtain rfl : f = 7 := Option.some.inj ((show Tryz.prog.funcNamed "environ/environlaw30.FramesNil" = some 7 by kernel_rfl).symm.trans hf) |>.symm
  obtain rfl : fn = Tryz.f7 := (Option.some.inj (Tryz.func7.symm.trans hfn)).symm
  refine ⟨by kernel_rfl, fun j t ht => ?_⟩
  rw [Tryz.params7] at ht
  match j with
  | 0 => obtain rfl : t = 3 := by simpa using ht.symm
         exact (show Tryz.prog.wantsStandIn 3 = false by kernel_rfl)
  | 1 => obtain rfl : t = 29 := by simpa using ht.symm
         exact (show Tryz.prog.wantsStandIn 29 = false by kernel_rfl)
  | j + 2 => simp at ht
end Go.Proofs.YteikomnahelckaaGreatDoor.framesNil
namespace Go.Proofs.YteikomnahelckaaGreatDoor
open Go Go.Abs
theorem framesNil_card : Rows.FramesNilUptoCardSaid :=
  Claim7.holds_tied_plain_at .later [] _ _ _ _ framesNil.saidUpto (fun _ h => by cases h) (by kernel_rfl) (fun _ h => by cases h) framesNilUpto_row_tie rfl ⟨rfl, rfl⟩ (by kernel_rfl) rfl framesNil.plain (by kernel_rfl)
#print axioms framesNil_card
end Go.Proofs.YteikomnahelckaaGreatDoor
