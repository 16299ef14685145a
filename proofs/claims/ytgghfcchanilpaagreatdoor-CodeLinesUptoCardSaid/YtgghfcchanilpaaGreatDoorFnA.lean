/- The bodies of some functions, as the abstract machine reads them (printed by wip/tools/Pr31.lean), each held against the program's form by the kernel. -/
import Derived.KernelRfl
import Derived.Test.YtgghfcchanilpaaGreatDoorAnn
import Derived.Test.YtgghfcchanilpaaGreatDoorProg
set_option linter.unusedVariables false
namespace Go.Proofs.YtgghfcchanilpaaGreatDoor
open Go Go.Abs

/-- environ/environlaw31.CodeNames -/
def fn3 (Pr : Program) (W : CallP) (a0 a1 : PV) (σ : St) (R : Res → St → Prop) : Prop :=
callB W 12 [] σ (fun v0 σ1 =>
bindO False (vUn .not v0) fun v2 =>
guardG False v2 false (fun J3 =>
bindO False (vLen .str a1 σ1) fun v6 =>
bindO False (vBin none .gtr v6 (.int .i64 100)) fun v7 =>
J3 (lookE [(12, (.v a1)), (13, (.v v6)), (14, (.v v7))]) σ1) σ1 (fun y4 σ5 =>
bindO False (vPick v2 (.bool true) (y4 14).pv) fun v8 =>
condW v8 (
callB W 12 [] σ5 (fun v9 σ10 =>
weakW σ v9 σ10 fun v σ => R (.ret v) σ) (fun e11 σ12 => R (.pan e11) σ12)) (
callB W 13 [a1] σ5 (fun v13 σ14 =>
bindO False (vExtract v13 0) fun v15 =>
bindO False (vExtract v13 1) fun v16 =>
callB W 14 [a1] σ14 (fun v17 σ18 =>
bindO False (vExtract v17 0) fun v19 =>
bindO False (vExtract v17 1) fun v20 =>
callB W 15 [a0] σ18 (fun v21 σ22 =>
callB W 16 [a0] σ22 (fun v23 σ24 =>
bindO False (vBin none .eql v21 v23) fun v25 =>
guardG False v25 true (fun J26 =>
callB W 17 [a0] σ24 (fun v29 σ30 =>
callB W 18 [a0] σ30 (fun v31 σ32 =>
bindO False (vBin none .eql v29 v31) fun v33 =>
J26 (lookE [(33, (.v a0)), (34, (.v v29)), (35, (.v a0)), (36, (.v v31)), (37, (.v v33))]) σ32) (fun e34 σ35 => R (.pan e34) σ35)) (fun e36 σ37 => R (.pan e36) σ37)) σ24 (fun y27 σ28 =>
bindO False (vPick v25 (y27 37).pv (.bool false)) fun v38 =>
guardG False v38 true (fun J39 =>
bindO False (vBin none .eql v15 v19) fun v42 =>
J39 (lookE [(40, (.v v15)), (41, (.v v19)), (42, (.v v42))]) σ28) σ28 (fun y40 σ41 =>
bindO False (vPick v38 (y40 42).pv (.bool false)) fun v43 =>
guardG False v43 true (fun J44 =>
bindO False (vBin (some .bool) .eql v16 v20) fun v47 =>
J44 (lookE [(45, (.v v16)), (46, (.v v20)), (47, (.v v47))]) σ41) σ41 (fun y45 σ46 =>
bindO False (vPick v43 (y45 47).pv (.bool false)) fun v48 =>
weakW σ v48 σ46 fun v σ => R (.ret v) σ)))) (fun e49 σ50 => R (.pan e49) σ50)) (fun e51 σ52 => R (.pan e51) σ52)) (fun e53 σ54 => R (.pan e53) σ54)) (fun e55 σ56 => R (.pan e55) σ56)))) (fun e57 σ58 => R (.pan e57) σ58)

theorem fn3_eq (W : CallP) (a0 a1 : PV) (σ : St) (R : Res → St → Prop) : bodyC (algP W) Tryz.prog annF 3 [a0, a1] σ R = fn3 Tryz.prog W a0 a1 σ R := by kernel_rfl

/-- environ/code.Find -/
def fn13 (Pr : Program) (W : CallP) (a0 : PV) (σ : St) (R : Res → St → Prop) : Prop :=
bindO False (opC.vBoxAny a0) fun z0 =>
if 0 < z0.1 then newW z0.1 z0.2 σ fun p1 σ2 =>
bindO False (vSubArr true 2 40 (globPV 0)) fun v3 =>
callB W 36 [v3, (.func 37 0 [p1])] σ2 (fun v4 σ5 =>
bindO False (vMax v4 (.int .i64 0)) fun v6 =>
bindO False (vBin none .geq v4 (.int .i64 0)) fun v7 =>
weakW σ (.tuple [v6, v7]) σ5 fun v σ => R (.ret v) σ) (fun e8 σ9 => R (.pan e8) σ9) else False

theorem fn13_eq (W : CallP) (a0 : PV) (σ : St) (R : Res → St → Prop) : bodyC (algP W) Tryz.prog annF 13 [a0] σ R = fn13 Tryz.prog W a0 σ R := by kernel_rfl

/-- environ/environref31.Find -/
def fn14 (Pr : Program) (W : CallP) (a0 : PV) (σ : St) (R : Res → St → Prop) : Prop :=
callB W 38 [] σ (fun v0 σ1 =>
CutW σ (fun J2 =>
packW [(0, a0), (4, v0), (5, (.int .i64 0))] fun x17 =>
Lfp σ (fun Φ5 x6 σ7 =>
bindO False (vLen .sl (x6 4) σ7) fun v8 =>
bindO False (vBin none .lss (x6 5) v8) fun v9 =>
condW v9 (
bindO False (vIndex 2 (x6 4) (x6 5)) fun v10 =>
bindO False (vField 0 v10) fun v11 =>
bindO False (vLoad false 1 v11 σ7) fun v12 =>
bindO False (vBin none .eql v12 (x6 0)) fun v13 =>
condW v13 (
weakW σ (.tuple [(x6 5), (.bool true)]) σ7 fun v σ => R (.ret v) σ) (
bindO False (vBin none .add (x6 5) (.int .i64 1)) fun v14 =>
packW [(0, (x6 0)), (4, (x6 4)), (5, v14)] fun x15 => Φ5 x15 σ7)) (
packW [] fun x16 => J2 x16 σ7)) x17 σ1) (fun x3 σ4 =>
weakW σ (.tuple [(.int .i64 0), (.bool false)]) σ4 fun v σ => R (.ret v) σ)) (fun e18 σ19 => R (.pan e18) σ19)

theorem fn14_eq (W : CallP) (a0 : PV) (σ : St) (R : Res → St → Prop) : bodyC (algP W) Tryz.prog annF 14 [a0] σ R = fn14 Tryz.prog W a0 σ R := by kernel_rfl

/-- environ/code.Name -/
def fn15 (Pr : Program) (W : CallP) (a0 : PV) (σ : St) (R : Res → St → Prop) : Prop :=
callB W 39 [a0] σ (fun v0 σ1 =>
bindO False (vUn .not v0) fun v2 =>
condW v2 (
weakW σ (.str []) σ1 fun v σ => R (.ret v) σ) (
bindO False (vArrOff 2 40 a0) fun k3 =>
bindO False (vField k3 (globPV 0)) fun v4 =>
bindO False (vField 0 v4) fun v5 =>
bindO False (vLoad false 1 v5 σ1) fun v6 =>
weakW σ v6 σ1 fun v σ => R (.ret v) σ)) (fun e7 σ8 => R (.pan e7) σ8)

theorem fn15_eq (W : CallP) (a0 : PV) (σ : St) (R : Res → St → Prop) : bodyC (algP W) Tryz.prog annF 15 [a0] σ R = fn15 Tryz.prog W a0 σ R := by kernel_rfl

/-- environ/environref31.Name -/
def fn16 (Pr : Program) (W : CallP) (a0 : PV) (σ : St) (R : Res → St → Prop) : Prop :=
bindO False (vBin none .lss a0 (.int .i64 0)) fun v0 =>
guardG False v0 false (fun J1 =>
bindO False (vBin none .geq a0 (.int .i64 40)) fun v4 =>
J1 (lookE [(6, (.v a0)), (7, (.v v4))]) σ) σ (fun y2 σ3 =>
bindO False (vPick v0 (.bool true) (y2 7).pv) fun v5 =>
condW v5 (
weakW σ (.str []) σ3 fun v σ => R (.ret v) σ) (
callB W 38 [] σ3 (fun v6 σ7 =>
bindO False (vIndex 2 v6 a0) fun v8 =>
bindO False (vField 0 v8) fun v9 =>
bindO False (vLoad false 1 v9 σ7) fun v10 =>
weakW σ v10 σ7 fun v σ => R (.ret v) σ) (fun e11 σ12 => R (.pan e11) σ12)))

theorem fn16_eq (W : CallP) (a0 : PV) (σ : St) (R : Res → St → Prop) : bodyC (algP W) Tryz.prog annF 16 [a0] σ R = fn16 Tryz.prog W a0 σ R := by kernel_rfl

/-- environ/code.Form -/
def fn17 (Pr : Program) (W : CallP) (a0 : PV) (σ : St) (R : Res → St → Prop) : Prop :=
callB W 39 [a0] σ (fun v0 σ1 =>
bindO False (vUn .not v0) fun v2 =>
condW v2 (
weakW σ (.str []) σ1 fun v σ => R (.ret v) σ) (
bindO False (vArrOff 2 40 a0) fun k3 =>
bindO False (vField k3 (globPV 0)) fun v4 =>
bindO False (vField 1 v4) fun v5 =>
bindO False (vLoad false 1 v5 σ1) fun v6 =>
weakW σ v6 σ1 fun v σ => R (.ret v) σ)) (fun e7 σ8 => R (.pan e7) σ8)

theorem fn17_eq (W : CallP) (a0 : PV) (σ : St) (R : Res → St → Prop) : bodyC (algP W) Tryz.prog annF 17 [a0] σ R = fn17 Tryz.prog W a0 σ R := by kernel_rfl

/-- environ/environref31.Form -/
def fn18 (Pr : Program) (W : CallP) (a0 : PV) (σ : St) (R : Res → St → Prop) : Prop :=
bindO False (vBin none .lss a0 (.int .i64 0)) fun v0 =>
guardG False v0 false (fun J1 =>
bindO False (vBin none .geq a0 (.int .i64 40)) fun v4 =>
J1 (lookE [(6, (.v a0)), (7, (.v v4))]) σ) σ (fun y2 σ3 =>
bindO False (vPick v0 (.bool true) (y2 7).pv) fun v5 =>
condW v5 (
weakW σ (.str []) σ3 fun v σ => R (.ret v) σ) (
callB W 38 [] σ3 (fun v6 σ7 =>
bindO False (vIndex 2 v6 a0) fun v8 =>
bindO False (vField 1 v8) fun v9 =>
bindO False (vLoad false 1 v9 σ7) fun v10 =>
weakW σ v10 σ7 fun v σ => R (.ret v) σ) (fun e11 σ12 => R (.pan e11) σ12)))

theorem fn18_eq (W : CallP) (a0 : PV) (σ : St) (R : Res → St → Prop) : bodyC (algP W) Tryz.prog annF 18 [a0] σ R = fn18 Tryz.prog W a0 σ R := by kernel_rfl

/-- environ/code.Find$1 -/
def fn37 (Pr : Program) (W : CallP) (a0 a1 : PV) (σ : St) (R : Res → St → Prop) : Prop :=
bindO False (opC.vBoxAny a0) fun z0 =>
bindO False (vPart false 1 z0.2 0) fun v1 =>
bindO False (vLoad false 1 a1 σ) fun v2 =>
bindO False (vBin none .eql v1 v2) fun v3 =>
weakW σ v3 σ fun v σ => R (.ret v) σ

theorem fn37_eq (W : CallP) (a0 a1 : PV) (σ : St) (R : Res → St → Prop) : bodyC (algP W) Tryz.prog annF 37 [a0, a1] σ R = fn37 Tryz.prog W a0 a1 σ R := by kernel_rfl

/-- environ/code.known -/
def fn39 (Pr : Program) (W : CallP) (a0 : PV) (σ : St) (R : Res → St → Prop) : Prop :=
bindO False (vBin none .geq a0 (.int .i64 0)) fun v0 =>
guardG False v0 true (fun J1 =>
bindO False (vBin none .lss a0 (.int .i64 40)) fun v4 =>
J1 (lookE [(6, (.v a0)), (7, (.v v4))]) σ) σ (fun y2 σ3 =>
bindO False (vPick v0 (y2 7).pv (.bool false)) fun v5 =>
weakW σ v5 σ3 fun v σ => R (.ret v) σ)

theorem fn39_eq (W : CallP) (a0 : PV) (σ : St) (R : Res → St → Prop) : bodyC (algP W) Tryz.prog annF 39 [a0] σ R = fn39 Tryz.prog W a0 σ R := by kernel_rfl

end Go.Proofs.YtgghfcchanilpaaGreatDoor
