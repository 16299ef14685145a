/- PROVED HERE: for any table of modes (of bulk at most 1048576), the law FramesSums returns true and leaves its argument as it was: a structure has the slots of its fields, one after the other, and modes with equal slots, and no others, have the same map. The program's own code is run by the model (the examples by a closed run of it in the kernel); strconv.Itoa and FormatBool, strings.Split, ReplaceAll, Fields and Join and strings.Builder by the kit's contracts. -/
import Derived.Test.YteikomnahelckaaGreatDoorLawSumsA
set_option linter.unusedVariables false
set_option linter.unusedSimpArgs false
namespace Go.Proofs.YteikomnahelckaaGreatDoor.framesSums
open Go Go.Abs Go.ChangeShapes Go.WideShapes Go.ChangeAt Go.RowKit
theorem saidUpto : Rows.FramesSumsUptoSaid :=
  OpenClaim.holds_of_cond 3 Tryz.f3 rfl rfl rfl rfl rfl rfl rfl ⟨rfl, rfl, rfl, rfl, rfl⟩ rfl rfl rfl rfl rfl (by kernel_rfl) Tryz.func3 closed hinst hwrap
    (fun os started H enc _ F => by rw [OpenClaim.pre_eq_preRow]; exact lifted os started H enc F)
theorem plain (f : FuncId) (fn : Func) (hf : Tryz.pinned.checked.prog.funcNamed "environ/environlaw30.FramesSums" = some f) (hfn : Tryz.pinned.checked.prog.funcs[f]? = some fn) :
    false = Tryz.pinned.checked.prog.looks [] ∧ ∀ (j : Nat) t, fn.params[j]? = some t → Tryz.pinned.checked.prog.wantsStandIn t = false := by
  obtain rfl : f = 3 := Option.some.inj ((show Tryz.prog.funcNamed "environ/environlaw30.FramesSums" = some 3 by kernel_rfl).symm.trans hf) |>.symm
  obtain rfl : fn = Tryz.f3 := (Option.some.inj (Tryz.func3.symm.trans hfn)).symm
  refine ⟨by kernel_rfl, fun j t ht => ?_⟩
  rw [Tryz.params3] at ht
  match j with
  | 0 => obtain rfl : t = 22 := by simpa using ht.symm
         exact (show Tryz.prog.wantsStandIn 22 = false by kernel_rfl)
  | j + 1 => simp at ht
end Go.Proofs.YteikomnahelckaaGreatDoor.framesSums
namespace Go.Proofs.YteikomnahelckaaGreatDoor
open Go Go.Abs
theorem framesSums_card : Rows.FramesSumsUptoCardSaid :=
  Claim7.holds_tied_plain_at .later [] _ _ _ _ framesSums.saidUpto (fun _ h => by cases h) (by kernel_rfl) (fun _ h => by cases h) framesSumsUpto_row_tie rfl ⟨rfl, rfl⟩ (by kernel_rfl) rfl framesSums.plain (by kernel_rfl)
#print axioms framesSums_card
end Go.Proofs.YteikomnahelckaaGreatDoor
