/- The bodies of some functions, as the abstract machine reads them (printed by wip/tools/Pr.lean), each held against the program's form by the kernel. -/
import Derived.Test.YtiniifbmeobmgaaGreatDoorAnn
import Derived.Test.YtiniifbmeobmgaaGreatDoorProg
import Derived.KernelRfl
set_option linter.unusedVariables false
namespace Go.Proofs.YtiniifbmeobmgaaGreatDoor
open Go Go.Abs

/-- environ/environlaw19.HyperRenames$1 -/
def fn36 (Pr : Program) (W : CallP) (a0 a1 : PV) (σ : St) (R : Res → St → Prop) : Prop :=
bindO False (opC.vBoxAny a0) fun z0 =>
bindO False (vPart false 1 z0.2 0) fun v1 =>
bindO False (vLoad false 1 a1 σ) fun v2 =>
bindO False (vBin none .eql v1 v2) fun v3 =>
weakW σ v3 σ fun v σ => R (.ret v) σ

theorem fn36_eq (W : CallP) (a0 a1 : PV) (σ : St) (R : Res → St → Prop) : bodyC (algP W) Tryz.prog annF 36 [a0, a1] σ R = fn36 Tryz.prog W a0 a1 σ R := by kernel_rfl

/-- environ/environlaw19.HyperRenames$2 -/
def fn37 (Pr : Program) (W : CallP) (a0 a1 a2 : PV) (σ : St) (R : Res → St → Prop) : Prop :=
callB W 38 [a0] σ (fun v0 σ1 =>
CutW σ (fun J2 =>
bindO False (vLen .sl v0 σ1) fun v5 =>
Lfp σ (fun Φ6 x7 σ8 =>
bindO False (vBin none .lss (x7 12) (x7 11)) fun v9 =>
condW v9 (
CutW σ (fun J10 =>
bindO False (vIndex 2 (x7 10) (x7 12)) fun v13 =>
bindO False (vLoad true 2 v13 σ8) fun v14 =>
bindO False (vPut 2 (.agg [(.bool false), (.str [])]) 0 v14) fun z15 =>
bindO False (vPart false 1 z15 0) fun v16 =>
guardG False v16 true (fun J17 =>
bindO False (vPart false 1 z15 1) fun v20 =>
bindO False (vLoad false 1 (x7 1) σ8) fun v21 =>
callC W 39 [v20, (.str [49, 50, 51, 52, 53, 54, 55, 56, 57])] σ8 fun v22 _ =>
bindO False (vBin none .eql v22 v21) fun v23 =>
J17 (lookE [(20, (.loc 7 1)), (21, (.v v20)), (23, (.v v21)), (22, (.v v22)), (24, (.v v23))]) σ8) σ8 (fun y18 σ19 =>
bindO False (vPick v16 (y18 24).pv (.bool false)) fun v24 =>
condW v24 (
bindO False (vLoad false 1 (x7 2) σ19) fun v25 =>
bindO False (vPart false 1 z15 1) fun v26 =>
bindO False (vLoad false 1 (x7 1) σ19) fun v27 =>
bindO False (vLen .str v27 σ19) fun v28 =>
bindO False (vSubStr v26 (some v28) none) fun v29 =>
bindO False (vBin none .add v25 v29) fun v30 =>
bindO False (vIndex 2 (x7 5) (x7 12)) fun v31 =>
bindO False (vField 1 v31) fun v32 =>
bindO False (vStore 1 v32 v30 σ19) fun σ33 =>
J10 (lookP [(1, (x7 1)), (2, (x7 2)), (5, (x7 5)), (10, (x7 10)), (11, (x7 11)), (12, (x7 12))]) σ33) (
J10 (lookP [(1, (x7 1)), (2, (x7 2)), (5, (x7 5)), (10, (x7 10)), (11, (x7 11)), (12, (x7 12))]) σ19))) (fun x11 σ12 =>
bindO False (vBin none .add (x11 12) (.int .i64 1)) fun v34 =>
Φ6 (lookP [(1, (x11 1)), (2, (x11 2)), (5, (x11 5)), (10, (x11 10)), (11, (x11 11)), (12, v34)]) σ12)) (
J2 (lookP [(5, (x7 5))]) σ8)) (lookP [(1, a1), (2, a2), (5, v0), (10, v0), (11, v5), (12, (.int .i64 0))]) σ1) (fun x3 σ4 =>
weakW σ (x3 5) σ4 fun v σ => R (.ret v) σ)) (fun e35 σ36 => R (.pan e35) σ36)

theorem fn37_eq (W : CallP) (a0 a1 a2 : PV) (σ : St) (R : Res → St → Prop) : bodyC (algP W) Tryz.prog annF 37 [a0, a1, a2] σ R = fn37 Tryz.prog W a0 a1 a2 σ R := by kernel_rfl

/-- slices.Clone[[]environ/hyper.Part,environ/hyper.Part] -/
def fn38 (Pr : Program) (W : CallP) (a0 : PV) (σ : St) (R : Res → St → Prop) : Prop :=
bindO False (vBin (some .sl) .eql a0 (.list .nil [])) fun v0 =>
condW v0 (
weakW σ (.list .nil []) σ fun v σ => R (.ret v) σ) (
bindO False (vBuildSl 2 (List.replicate 0 (.agg [(.bool false), (.str [])])) []) fun v1 =>
bindS (vAppend 2 24 (.list .full v1) a0 σ) fun v2 σ3 =>
weakW σ v2 σ3 fun v σ => R (.ret v) σ)

theorem fn38_eq (W : CallP) (a0 : PV) (σ : St) (R : Res → St → Prop) : bodyC (algP W) Tryz.prog annF 38 [a0] σ R = fn38 Tryz.prog W a0 σ R := by kernel_rfl

end Go.Proofs.YtiniifbmeobmgaaGreatDoor
