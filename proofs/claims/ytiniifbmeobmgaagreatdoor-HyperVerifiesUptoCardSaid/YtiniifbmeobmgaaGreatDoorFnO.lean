/- The bodies of some functions, as the abstract machine reads them (printed by wip/tools/Pr.lean), each held against the program's form by the kernel. -/
import Derived.Test.YtiniifbmeobmgaaGreatDoorAnn
import Derived.Test.YtiniifbmeobmgaaGreatDoorProg
import Derived.KernelRfl
set_option linter.unusedVariables false
namespace Go.Proofs.YtiniifbmeobmgaaGreatDoor
open Go Go.Abs

/-- environ/environref19.with -/
def fn147 (Pr : Program) (W : CallP) (a0 a1 : PV) (σ : St) (R : Res → St → Prop) : Prop :=
bindO False (opC.vBoxAny a1) fun z0 =>
CutW σ (fun J1 =>
Lfp σ (fun Φ4 x5 σ6 =>
bindO False (vLen .sl (x5 0) σ6) fun v7 =>
bindO False (vBin none .lss (x5 5) v7) fun v8 =>
guardG False v8 true (fun J9 =>
bindO False (vIndex 2 (x5 0) (x5 5)) fun v12 =>
bindO False (vField 0 v12) fun v13 =>
bindO False (vLoad false 1 v13 σ6) fun v14 =>
bindO False (vPart false 1 (x5 3) 0) fun v15 =>
bindO False (vBin none .lss v14 v15) fun v16 =>
J9 (lookE [(12, (.v (x5 0))), (13, (.v (x5 5))), (14, (.v v12)), (15, (.v v13)), (16, (.v v14)), (17, (.loc 3 0)), (18, (.v v15)), (19, (.v v16))]) σ6) σ6 (fun y10 σ11 =>
bindO False (vPick v8 (y10 19).pv (.bool false)) fun v17 =>
condW v17 (
bindO False (vBin none .add (x5 5) (.int .i64 1)) fun v18 =>
Φ4 (lookP [(0, (x5 0)), (5, v18), (3, (x5 3))]) σ11) (
J1 (lookP [(0, (x5 0)), (5, (x5 5)), (3, (x5 3))]) σ11))) (lookP [(0, a0), (5, (.int .i64 0)), (3, z0.2)]) σ) (fun x2 σ3 =>
bindO False (vBuildSl 2 (List.replicate 0 (.agg [(.str []), (.str [])])) []) fun v19 =>
bindO False (vSubSl 2 (x2 0) none (some (x2 5))) fun v20 =>
bindS (vAppend 2 32 (.list .full v19) v20 σ3) fun v21 σ22 =>
bindO False (vPart true 2 (x2 3) 0) fun v23 =>
bindO False (vBuildSl 2 (List.replicate 1 (.agg [(.str []), (.str [])])) [(0, v23)]) fun v24 =>
bindS (vAppend 2 32 v21 (.list .full v24) σ22) fun v25 σ26 =>
bindO False (vSubSl 2 (x2 0) (some (x2 5)) none) fun v27 =>
bindS (vAppend 2 32 v25 v27 σ26) fun v28 σ29 =>
weakW σ v28 σ29 fun v σ => R (.ret v) σ)

theorem fn147_eq (W : CallP) (a0 a1 : PV) (σ : St) (R : Res → St → Prop) : bodyC (algP W) Tryz.prog annF 147 [a0, a1] σ R = fn147 Tryz.prog W a0 a1 σ R := by kernel_rfl

end Go.Proofs.YtiniifbmeobmgaaGreatDoor
