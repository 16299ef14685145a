/- The bodies of some functions, as the abstract machine reads them (printed by wip/tools/Pr.lean), each held against the program's form by the kernel. -/
import Derived.KernelRfl
import Derived.Test.YtiniifbmeobmgaaGreatDoorAnn
import Derived.Test.YtiniifbmeobmgaaGreatDoorProg
set_option linter.unusedVariables false
namespace Go.Proofs.YtiniifbmeobmgaaGreatDoor
open Go Go.Abs

/-- environ/environlaw19.Few -/
def fn40 (Pr : Program) (W : CallP) (a0 : PV) (σ : St) (R : Res → St → Prop) : Prop :=
bindO False (opC.vBoxAny a0) fun z0 =>
newW 1 (.int .i64 0) σ fun p1 σ2 =>
bindO False (vStore 1 p1 (.int .i64 0) σ2) fun σ3 =>
bindO False (vPart true 4 z0.2 0) fun v4 =>
callB W 116 [v4, (.int .i64 40), p1] σ3 (fun v5 σ6 =>
guardG False v5 true (fun J7 =>
bindO False (vLoad false 1 p1 σ6) fun v10 =>
bindO False (vBin none .leq v10 (.int .i64 60)) fun v11 =>
J7 (lookE [(7, (.v v10)), (8, (.v v11))]) σ6) σ6 (fun y8 σ9 =>
bindO False (vPick v5 (y8 8).pv (.bool false)) fun v12 =>
weakW σ v12 σ9 fun v σ => R (.ret v) σ)) (fun e13 σ14 => R (.pan e13) σ14)

theorem fn40_eq (W : CallP) (a0 : PV) (σ : St) (R : Res → St → Prop) : bodyC (algP W) Tryz.prog annF 40 [a0] σ R = fn40 Tryz.prog W a0 σ R := by kernel_rfl

/-- environ/environlaw19.count -/
def fn116 (Pr : Program) (W : CallP) (a0 a1 a2 : PV) (σ : St) (R : Res → St → Prop) : Prop :=
bindO False (opC.vBoxAny a0) fun z0 =>
bindO False (opC.vBoxAny a1) fun z1 =>
if 0 < z1.1 then newW z1.1 z1.2 σ fun p2 σ3 =>
bindO False (opC.vBoxAny a2) fun z4 =>
if 0 < z4.1 then newW z4.1 z4.2 σ3 fun p5 σ6 =>
bindO False (vLoad false 1 p5 σ6) fun v7 =>
bindO False (vNil v7) fun v8 =>
bindO False (vLoad false 1 v8 σ6) fun v9 =>
bindO False (vBin none .add v9 (.int .i64 1)) fun v10 =>
bindO False (vNil v7) fun v11 =>
bindO False (vStore 1 v11 v10 σ6) fun σ12 =>
bindO False (vLoad false 1 p5 σ12) fun v13 =>
bindO False (vNil v13) fun v14 =>
bindO False (vLoad false 1 v14 σ12) fun v15 =>
bindO False (vBin none .gtr v15 (.int .i64 60)) fun v16 =>
guardG False v16 false (fun J17 =>
bindO False (vLoad false 1 p2 σ12) fun v20 =>
bindO False (vBin none .eql v20 (.int .i64 0)) fun v21 =>
J17 (lookE [(17, (.v v20)), (18, (.v v21))]) σ12) σ12 (fun y18 σ19 =>
bindO False (vPick v16 (.bool true) (y18 18).pv) fun v22 =>
guardG False v22 false (fun J23 =>
bindO False (vPart false 1 z0.2 1) fun v26 =>
bindO False (vLen .str v26 σ19) fun v27 =>
bindO False (vBin none .gtr v27 (.int .i64 100)) fun v28 =>
J23 (lookE [(21, (.loc 3 1)), (22, (.v v26)), (23, (.v v27)), (24, (.v v28))]) σ19) σ19 (fun y24 σ25 =>
bindO False (vPick v22 (.bool true) (y24 24).pv) fun v29 =>
guardG False v29 false (fun J30 =>
bindO False (vPart false 1 z0.2 2) fun v33 =>
bindO False (vLen .sl v33 σ25) fun v34 =>
bindO False (vBin none .gtr v34 (.int .i64 8)) fun v35 =>
J30 (lookE [(27, (.loc 3 2)), (28, (.v v33)), (29, (.v v34)), (30, (.v v35))]) σ25) σ25 (fun y31 σ32 =>
bindO False (vPick v29 (.bool true) (y31 30).pv) fun v36 =>
guardG False v36 false (fun J37 =>
bindO False (vPart false 1 z0.2 2) fun v40 =>
callB W 156 [v40, (.func 157 [])] σ32 (fun v41 σ42 =>
J37 (lookE [(33, (.loc 3 2)), (34, (.v v40)), (35, (.v v41))]) σ42) (fun e43 σ44 => R (.pan e43) σ44)) σ32 (fun y38 σ39 =>
bindO False (vPick v36 (.bool true) (y38 35).pv) fun v45 =>
condW v45 (
weakW σ (.bool false) σ39 fun v σ => R (.ret v) σ) (
bindO False (vPart false 1 z0.2 3) fun v46 =>
callB W 158 [v46, (.func 159 [p2, p5])] σ39 (fun v47 σ48 =>
bindO False (vUn .not v47) fun v49 =>
weakW σ v49 σ48 fun v σ => R (.ret v) σ) (fun e50 σ51 => R (.pan e50) σ51)))))) else False else False

theorem fn116_eq (W : CallP) (a0 a1 a2 : PV) (σ : St) (R : Res → St → Prop) : bodyC (algP W) Tryz.prog annF 116 [a0, a1, a2] σ R = fn116 Tryz.prog W a0 a1 a2 σ R := by kernel_rfl

/-- slices.ContainsFunc[[]environ/hyper.Bind,environ/hyper.Bind] -/
def fn156 (Pr : Program) (W : CallP) (a0 a1 : PV) (σ : St) (R : Res → St → Prop) : Prop :=
callB W 96 [a0, a1] σ (fun v0 σ1 =>
bindO False (vBin none .geq v0 (.int .i64 0)) fun v2 =>
weakW σ v2 σ1 fun v σ => R (.ret v) σ) (fun e3 σ4 => R (.pan e3) σ4)

theorem fn156_eq (W : CallP) (a0 a1 : PV) (σ : St) (R : Res → St → Prop) : bodyC (algP W) Tryz.prog annF 156 [a0, a1] σ R = fn156 Tryz.prog W a0 a1 σ R := by kernel_rfl

/-- environ/environlaw19.count$1 -/
def fn157 (Pr : Program) (W : CallP) (a0 : PV) (σ : St) (R : Res → St → Prop) : Prop :=
bindO False (opC.vBoxAny a0) fun z0 =>
bindO False (vPart false 1 z0.2 1) fun v1 =>
bindO False (vLen .str v1 σ) fun v2 =>
bindO False (vBin none .gtr v2 (.int .i64 60)) fun v3 =>
weakW σ v3 σ fun v σ => R (.ret v) σ

theorem fn157_eq (W : CallP) (a0 : PV) (σ : St) (R : Res → St → Prop) : bodyC (algP W) Tryz.prog annF 157 [a0] σ R = fn157 Tryz.prog W a0 σ R := by kernel_rfl

/-- slices.ContainsFunc[[]environ/hyper.Tree,environ/hyper.Tree] -/
def fn158 (Pr : Program) (W : CallP) (a0 a1 : PV) (σ : St) (R : Res → St → Prop) : Prop :=
callB W 182 [a0, a1] σ (fun v0 σ1 =>
bindO False (vBin none .geq v0 (.int .i64 0)) fun v2 =>
weakW σ v2 σ1 fun v σ => R (.ret v) σ) (fun e3 σ4 => R (.pan e3) σ4)

theorem fn158_eq (W : CallP) (a0 a1 : PV) (σ : St) (R : Res → St → Prop) : bodyC (algP W) Tryz.prog annF 158 [a0, a1] σ R = fn158 Tryz.prog W a0 a1 σ R := by kernel_rfl

/-- environ/environlaw19.count$2 -/
def fn159 (Pr : Program) (W : CallP) (a0 a1 a2 : PV) (σ : St) (R : Res → St → Prop) : Prop :=
bindO False (opC.vBoxAny a0) fun z0 =>
bindO False (vPart true 4 z0.2 0) fun v1 =>
bindO False (vLoad false 1 a1 σ) fun v2 =>
bindO False (vBin none .sub v2 (.int .i64 1)) fun v3 =>
bindO False (vLoad false 1 a2 σ) fun v4 =>
callB W 116 [v1, v3, v4] σ (fun v5 σ6 =>
bindO False (vUn .not v5) fun v7 =>
weakW σ v7 σ6 fun v σ => R (.ret v) σ) (fun e8 σ9 => R (.pan e8) σ9)

theorem fn159_eq (W : CallP) (a0 a1 a2 : PV) (σ : St) (R : Res → St → Prop) : bodyC (algP W) Tryz.prog annF 159 [a0, a1, a2] σ R = fn159 Tryz.prog W a0 a1 a2 σ R := by kernel_rfl

/-- slices.IndexFunc[[]environ/hyper.Tree,environ/hyper.Tree] -/
def fn182 (Pr : Program) (W : CallP) (a0 a1 : PV) (σ : St) (R : Res → St → Prop) : Prop :=
bindO False (vLen .sl a0 σ) fun v0 =>
Lfp σ (fun Φ1 x2 σ3 =>
bindO False (vBin none .lss (x2 8) (x2 7)) fun v4 =>
condW v4 (
bindO False (vIndex 4 (x2 0) (x2 8)) fun v5 =>
bindO False (vLoad true 4 v5 σ3) fun v6 =>
callG (algP W) Pr false (x2 1) [v6] σ3 (fun v7 σ8 =>
condW v7 (
weakW σ (x2 8) σ8 fun v σ => R (.ret v) σ) (
bindO False (vBin none .add (x2 8) (.int .i64 1)) fun v9 =>
Φ1 (lookP [(0, (x2 0)), (1, (x2 1)), (7, (x2 7)), (8, v9)]) σ8)) (fun e10 σ11 => R (.pan e10) σ11)) (
weakW σ (.int .i64 (-1)) σ3 fun v σ => R (.ret v) σ)) (lookP [(0, a0), (1, a1), (7, v0), (8, (.int .i64 0))]) σ

theorem fn182_eq (W : CallP) (a0 a1 : PV) (σ : St) (R : Res → St → Prop) : bodyC (algP W) Tryz.prog annF 182 [a0, a1] σ R = fn182 Tryz.prog W a0 a1 σ R := by kernel_rfl

/-- environ/hyper.Size -/
def fn45 (Pr : Program) (W : CallP) (a0 : PV) (σ : St) (R : Res → St → Prop) : Prop :=
bindO False (opC.vBoxAny a0) fun z0 =>
bindO False (vPart false 1 z0.2 3) fun v1 =>
bindO False (vLen .sl v1 σ) fun v2 =>
Lfp σ (fun Φ3 x4 σ5 =>
bindO False (vBin none .lss (x4 9) (x4 8)) fun v6 =>
condW v6 (
bindO False (vIndex 4 (x4 7) (x4 9)) fun v7 =>
bindO False (vLoad true 4 v7 σ5) fun v8 =>
bindO False (vPut 4 (.agg [(.int .i64 0), (.str []), (.list .nil []), (.list .nil [])]) 0 v8) fun z9 =>
bindO False (vPart true 4 z9 0) fun v10 =>
callB W 45 [v10] σ5 (fun v11 σ12 =>
bindO False (vBin none .add (x4 3) v11) fun v13 =>
bindO False (vBin none .add (x4 9) (.int .i64 1)) fun v14 =>
Φ3 (lookP [(3, v13), (7, (x4 7)), (8, (x4 8)), (9, v14)]) σ12) (fun e15 σ16 => R (.pan e15) σ16)) (
weakW σ (x4 3) σ5 fun v σ => R (.ret v) σ)) (lookP [(3, (.int .i64 1)), (7, v1), (8, v2), (9, (.int .i64 0))]) σ

theorem fn45_eq (W : CallP) (a0 : PV) (σ : St) (R : Res → St → Prop) : bodyC (algP W) Tryz.prog annF 45 [a0] σ R = fn45 Tryz.prog W a0 σ R := by kernel_rfl

/-- slices.Equal[[]string,string] -/
def fn44 (Pr : Program) (W : CallP) (a0 a1 : PV) (σ : St) (R : Res → St → Prop) : Prop :=
bindO False (vLen .sl a0 σ) fun v0 =>
bindO False (vLen .sl a1 σ) fun v1 =>
bindO False (vBin none .neq v0 v1) fun v2 =>
condW v2 (
weakW σ (.bool false) σ fun v σ => R (.ret v) σ) (
bindO False (vLen .sl a0 σ) fun v3 =>
Lfp σ (fun Φ4 x5 σ6 =>
bindO False (vBin none .lss (x5 13) (x5 12)) fun v7 =>
condW v7 (
bindO False (vIndex 1 (x5 0) (x5 13)) fun v8 =>
bindO False (vLoad false 1 v8 σ6) fun v9 =>
bindO False (vIndex 1 (x5 1) (x5 13)) fun v10 =>
bindO False (vLoad false 1 v10 σ6) fun v11 =>
bindO False (vBin none .neq v9 v11) fun v12 =>
condW v12 (
weakW σ (.bool false) σ6 fun v σ => R (.ret v) σ) (
bindO False (vBin none .add (x5 13) (.int .i64 1)) fun v13 =>
Φ4 (lookP [(0, (x5 0)), (1, (x5 1)), (12, (x5 12)), (13, v13)]) σ6)) (
weakW σ (.bool true) σ6 fun v σ => R (.ret v) σ)) (lookP [(0, a0), (1, a1), (12, v3), (13, (.int .i64 0))]) σ)

theorem fn44_eq (W : CallP) (a0 a1 : PV) (σ : St) (R : Res → St → Prop) : bodyC (algP W) Tryz.prog annF 44 [a0, a1] σ R = fn44 Tryz.prog W a0 a1 σ R := by kernel_rfl

end Go.Proofs.YtiniifbmeobmgaaGreatDoor
