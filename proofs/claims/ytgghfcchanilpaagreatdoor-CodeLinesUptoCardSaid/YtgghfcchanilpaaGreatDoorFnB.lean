/- The bodies of some functions, as the abstract machine reads them (printed by wip/tools/Pr31.lean), each held against the program's form by the kernel. -/
import Derived.KernelRfl
import Derived.Test.YtgghfcchanilpaaGreatDoorAnn
import Derived.Test.YtgghfcchanilpaaGreatDoorProg
set_option linter.unusedVariables false
namespace Go.Proofs.YtgghfcchanilpaaGreatDoor
open Go Go.Abs

/-- slices.IndexFunc[[]environ/code.op,environ/code.op] -/
def fn36 (Pr : Program) (W : CallP) (a0 a1 : PV) (σ : St) (R : Res → St → Prop) : Prop :=
bindO False (vLen .sl a0 σ) fun v0 =>
packW [(0, a0), (1, a1), (7, v0), (8, (.int .i64 0))] fun x13 =>
Lfp σ (fun Φ1 x2 σ3 =>
bindO False (vBin none .lss (x2 8) (x2 7)) fun v4 =>
condW v4 (
bindO False (vIndex 2 (x2 0) (x2 8)) fun v5 =>
bindO False (vLoad true 2 v5 σ3) fun v6 =>
callG (algP W) Pr false (x2 1) [v6] σ3 (fun v7 σ8 =>
condW v7 (
weakW σ (x2 8) σ8 fun v σ => R (.ret v) σ) (
bindO False (vBin none .add (x2 8) (.int .i64 1)) fun v9 =>
packW [(0, (x2 0)), (1, (x2 1)), (7, (x2 7)), (8, v9)] fun x10 => Φ1 x10 σ8)) (fun e11 σ12 => R (.pan e11) σ12)) (
weakW σ (.int .i64 (-1)) σ3 fun v σ => R (.ret v) σ)) x13 σ

theorem fn36_eq (W : CallP) (a0 a1 : PV) (σ : St) (R : Res → St → Prop) : bodyC (algP W) Tryz.prog annF 36 [a0, a1] σ R = fn36 Tryz.prog W a0 a1 σ R := by kernel_rfl

/-- slices.ContainsFunc[[]environ/api.Oper,environ/api.Oper] -/
def fn40 (Pr : Program) (W : CallP) (a0 a1 : PV) (σ : St) (R : Res → St → Prop) : Prop :=
callB W 89 [a0, a1] σ (fun v0 σ1 =>
bindO False (vBin none .geq v0 (.int .i64 0)) fun v2 =>
weakW σ v2 σ1 fun v σ => R (.ret v) σ) (fun e3 σ4 => R (.pan e3) σ4)

theorem fn40_eq (W : CallP) (a0 a1 : PV) (σ : St) (R : Res → St → Prop) : bodyC (algP W) Tryz.prog annF 40 [a0, a1] σ R = fn40 Tryz.prog W a0 a1 σ R := by kernel_rfl

/-- slices.IndexFunc[[]environ/api.Oper,environ/api.Oper] -/
def fn89 (Pr : Program) (W : CallP) (a0 a1 : PV) (σ : St) (R : Res → St → Prop) : Prop :=
bindO False (vLen .sl a0 σ) fun v0 =>
packW [(0, a0), (1, a1), (7, v0), (8, (.int .i64 0))] fun x13 =>
Lfp σ (fun Φ1 x2 σ3 =>
bindO False (vBin none .lss (x2 8) (x2 7)) fun v4 =>
condW v4 (
bindO False (vIndex 3 (x2 0) (x2 8)) fun v5 =>
bindO False (vLoad true 3 v5 σ3) fun v6 =>
callG (algP W) Pr false (x2 1) [v6] σ3 (fun v7 σ8 =>
condW v7 (
weakW σ (x2 8) σ8 fun v σ => R (.ret v) σ) (
bindO False (vBin none .add (x2 8) (.int .i64 1)) fun v9 =>
packW [(0, (x2 0)), (1, (x2 1)), (7, (x2 7)), (8, v9)] fun x10 => Φ1 x10 σ8)) (fun e11 σ12 => R (.pan e11) σ12)) (
weakW σ (.int .i64 (-1)) σ3 fun v σ => R (.ret v) σ)) x13 σ

theorem fn89_eq (W : CallP) (a0 a1 : PV) (σ : St) (R : Res → St → Prop) : bodyC (algP W) Tryz.prog annF 89 [a0, a1] σ R = fn89 Tryz.prog W a0 a1 σ R := by kernel_rfl

end Go.Proofs.YtgghfcchanilpaaGreatDoor
