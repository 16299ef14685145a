/- The bodies of some functions, as the abstract machine reads them (printed by wip/tools/Pr.lean), each held against the program's form by the kernel. -/
import Derived.Test.YtiniifbmeobmgaaGreatDoorAnn
import Derived.Test.YtiniifbmeobmgaaGreatDoorProg
import Derived.KernelRfl
set_option linter.unusedVariables false
namespace Go.Proofs.YtiniifbmeobmgaaGreatDoor
open Go Go.Abs

/-- environ/environlaw19.HyperReads -/
def fn5 (Pr : Program) (W : CallP) (a0 : PV) (σ : St) (R : Res → St → Prop) : Prop :=
callB W 13 [] σ (fun v0 σ1 =>
bindO False (vUn .not v0) fun v2 =>
condW v2 (
weakW σ (.bool false) σ1 fun v σ => R (.ret v) σ) (
bindO False (vLen .str a0 σ1) fun v3 =>
bindO False (vBin none .gtr v3 (.int .i64 400)) fun v4 =>
condW v4 (
weakW σ (.bool true) σ1 fun v σ => R (.ret v) σ) (
callB W 20 [a0] σ1 (fun v5 σ6 =>
bindO False (vExtract v5 0) fun v7 =>
bindO False (vExtract v5 1) fun v8 =>
bindO False (vPut 2 (.agg [(.list .nil []), (.list .nil [])]) 0 v7) fun z9 =>
bindO False (vPut 2 (.agg [(.int .i64 0), (.int .i64 0)]) 0 v8) fun z10 =>
callB W 21 [a0] σ6 (fun v11 σ12 =>
bindO False (vExtract v11 0) fun v13 =>
bindO False (vExtract v11 1) fun v14 =>
bindO False (vPut 2 (.agg [(.list .nil []), (.list .nil [])]) 0 v13) fun z15 =>
bindO False (vPut 2 (.agg [(.int .i64 0), (.int .i64 0)]) 0 v14) fun z16 =>
bindO False (vPart true 2 z10 0) fun v17 =>
bindO False (vPart true 2 z16 0) fun v18 =>
bindO False (vBin (some (.st [.int, .int])) .eql v17 v18) fun v19 =>
guardG False v19 true (fun J20 =>
bindO False (vPart true 2 z9 0) fun v23 =>
bindO False (vPart true 2 z15 0) fun v24 =>
callB W 22 [v23, v24] σ12 (fun v25 σ26 =>
J20 (lookE [(26, (.v v23)), (27, (.v v24)), (28, (.v v25))]) σ26) (fun e27 σ28 => R (.pan e27) σ28)) σ12 (fun y21 σ22 =>
bindO False (vPick v19 (y21 28).pv (.bool false)) fun v29 =>
weakW σ v29 σ22 fun v σ => R (.ret v) σ)) (fun e30 σ31 => R (.pan e30) σ31)) (fun e32 σ33 => R (.pan e32) σ33)))) (fun e34 σ35 => R (.pan e34) σ35)

theorem fn5_eq (W : CallP) (a0 : PV) (σ : St) (R : Res → St → Prop) : bodyC (algP W) Tryz.prog annF 5 [a0] σ R = fn5 Tryz.prog W a0 σ R := by kernel_rfl

/-- environ/environlaw19.Same -/
def fn22 (Pr : Program) (W : CallP) (a0 a1 : PV) (σ : St) (R : Res → St → Prop) : Prop :=
bindO False (opC.vBoxAny a0) fun z0 =>
bindO False (opC.vBoxAny a1) fun z1 =>
newW 1 .nilfunc σ fun p2 σ3 =>
bindO False (vStore 1 p2 (.func 83 []) σ3) fun σ4 =>
newW 1 .nilfunc σ4 fun p5 σ6 =>
bindO False (vStore 1 p5 (.func 84 [p2]) σ6) fun σ7 =>
bindO False (vPart false 1 z0.2 0) fun v8 =>
bindO False (vPart false 1 z1.2 0) fun v9 =>
callB W 86 [v8, v9, (.func 87 [p5])] σ7 (fun v10 σ11 =>
guardG False v10 true (fun J12 =>
bindO False (vPart false 1 z0.2 1) fun v15 =>
bindO False (vPart false 1 z1.2 1) fun v16 =>
callB W 89 [v15, v16, (.func 90 [p5])] σ11 (fun v17 σ18 =>
J12 (lookE [(15, (.loc 2 1)), (16, (.v v15)), (17, (.loc 3 1)), (18, (.v v16)), (19, (.v (.func 90 [p5]))), (20, (.v v17))]) σ18) (fun e19 σ20 => R (.pan e19) σ20)) σ11 (fun y13 σ14 =>
bindO False (vPick v10 (y13 20).pv (.bool false)) fun v21 =>
weakW σ v21 σ14 fun v σ => R (.ret v) σ)) (fun e22 σ23 => R (.pan e22) σ23)

theorem fn22_eq (W : CallP) (a0 a1 : PV) (σ : St) (R : Res → St → Prop) : bodyC (algP W) Tryz.prog annF 22 [a0, a1] σ R = fn22 Tryz.prog W a0 a1 σ R := by kernel_rfl

/-- environ/environlaw19.Same$1 -/
def fn83 (Pr : Program) (W : CallP) (a0 a1 : PV) (σ : St) (R : Res → St → Prop) : Prop :=
bindO False (opC.vBoxAny a0) fun z0 =>
bindO False (opC.vBoxAny a1) fun z1 =>
bindO False (vPart true 2 z0.2 0) fun v2 =>
bindO False (vPart true 2 z1.2 0) fun v3 =>
bindO False (vBin (some (.st [.bool, .str])) .eql v2 v3) fun v4 =>
weakW σ v4 σ fun v σ => R (.ret v) σ

theorem fn83_eq (W : CallP) (a0 a1 : PV) (σ : St) (R : Res → St → Prop) : bodyC (algP W) Tryz.prog annF 83 [a0, a1] σ R = fn83 Tryz.prog W a0 a1 σ R := by kernel_rfl

/-- environ/environlaw19.Same$2 -/
def fn84 (Pr : Program) (W : CallP) (a0 a1 a2 : PV) (σ : St) (R : Res → St → Prop) : Prop :=
bindO False (vLoad false 1 a2 σ) fun v0 =>
callB W 85 [a0, a1, v0] σ (fun v1 σ2 =>
weakW σ v1 σ2 fun v σ => R (.ret v) σ) (fun e3 σ4 => R (.pan e3) σ4)

theorem fn84_eq (W : CallP) (a0 a1 a2 : PV) (σ : St) (R : Res → St → Prop) : bodyC (algP W) Tryz.prog annF 84 [a0, a1, a2] σ R = fn84 Tryz.prog W a0 a1 a2 σ R := by kernel_rfl

/-- slices.EqualFunc[[]environ/hyper.Part,[]environ/environref19.Part,environ/hyper.Part,environ/environref19.Part] -/
def fn85 (Pr : Program) (W : CallP) (a0 a1 a2 : PV) (σ : St) (R : Res → St → Prop) : Prop :=
bindO False (vLen .sl a0 σ) fun v0 =>
bindO False (vLen .sl a1 σ) fun v1 =>
bindO False (vBin none .neq v0 v1) fun v2 =>
condW v2 (
weakW σ (.bool false) σ fun v σ => R (.ret v) σ) (
CutW σ (fun J3 =>
bindO False (vLen .sl a0 σ) fun v6 =>
Lfp σ (fun Φ7 x8 σ9 =>
bindO False (vBin none .lss (x8 17) (x8 16)) fun v10 =>
condW v10 (
bindO False (vIndex 2 (x8 15) (x8 17)) fun v11 =>
bindO False (vLoad true 2 v11 σ9) fun v12 =>
bindO False (vPut 2 (.agg [(.bool false), (.str [])]) 0 v12) fun z13 =>
bindO False (vIndex 2 (x8 1) (x8 17)) fun v14 =>
bindO False (vLoad true 2 v14 σ9) fun v15 =>
bindO False (vPut 2 (.agg [(.bool false), (.str [])]) 0 v15) fun z16 =>
bindO False (vPart true 2 z13 0) fun v17 =>
bindO False (vPart true 2 z16 0) fun v18 =>
callG (algP W) Pr false (x8 2) [v17, v18] σ9 (fun v19 σ20 =>
bindO False (vUn .not v19) fun v21 =>
condW v21 (
weakW σ (.bool false) σ20 fun v σ => R (.ret v) σ) (
bindO False (vBin none .add (x8 17) (.int .i64 1)) fun v22 =>
Φ7 (lookP [(1, (x8 1)), (2, (x8 2)), (15, (x8 15)), (16, (x8 16)), (17, v22)]) σ20)) (fun e23 σ24 => R (.pan e23) σ24)) (
J3 (lookP []) σ9)) (lookP [(1, a1), (2, a2), (15, a0), (16, v6), (17, (.int .i64 0))]) σ) (fun x4 σ5 =>
weakW σ (.bool true) σ5 fun v σ => R (.ret v) σ))

theorem fn85_eq (W : CallP) (a0 a1 a2 : PV) (σ : St) (R : Res → St → Prop) : bodyC (algP W) Tryz.prog annF 85 [a0, a1, a2] σ R = fn85 Tryz.prog W a0 a1 a2 σ R := by kernel_rfl

/-- slices.EqualFunc[[]environ/hyper.Meta,[]environ/environref19.Meta,environ/hyper.Meta,environ/environref19.Meta] -/
def fn86 (Pr : Program) (W : CallP) (a0 a1 a2 : PV) (σ : St) (R : Res → St → Prop) : Prop :=
bindO False (vLen .sl a0 σ) fun v0 =>
bindO False (vLen .sl a1 σ) fun v1 =>
bindO False (vBin none .neq v0 v1) fun v2 =>
condW v2 (
weakW σ (.bool false) σ fun v σ => R (.ret v) σ) (
CutW σ (fun J3 =>
bindO False (vLen .sl a0 σ) fun v6 =>
Lfp σ (fun Φ7 x8 σ9 =>
bindO False (vBin none .lss (x8 17) (x8 16)) fun v10 =>
condW v10 (
bindO False (vIndex 2 (x8 15) (x8 17)) fun v11 =>
bindO False (vLoad true 2 v11 σ9) fun v12 =>
bindO False (vPut 2 (.agg [(.str []), (.list .nil [])]) 0 v12) fun z13 =>
bindO False (vIndex 2 (x8 1) (x8 17)) fun v14 =>
bindO False (vLoad true 2 v14 σ9) fun v15 =>
bindO False (vPut 2 (.agg [(.str []), (.list .nil [])]) 0 v15) fun z16 =>
bindO False (vPart true 2 z13 0) fun v17 =>
bindO False (vPart true 2 z16 0) fun v18 =>
callG (algP W) Pr false (x8 2) [v17, v18] σ9 (fun v19 σ20 =>
bindO False (vUn .not v19) fun v21 =>
condW v21 (
weakW σ (.bool false) σ20 fun v σ => R (.ret v) σ) (
bindO False (vBin none .add (x8 17) (.int .i64 1)) fun v22 =>
Φ7 (lookP [(1, (x8 1)), (2, (x8 2)), (15, (x8 15)), (16, (x8 16)), (17, v22)]) σ20)) (fun e23 σ24 => R (.pan e23) σ24)) (
J3 (lookP []) σ9)) (lookP [(1, a1), (2, a2), (15, a0), (16, v6), (17, (.int .i64 0))]) σ) (fun x4 σ5 =>
weakW σ (.bool true) σ5 fun v σ => R (.ret v) σ))

theorem fn86_eq (W : CallP) (a0 a1 a2 : PV) (σ : St) (R : Res → St → Prop) : bodyC (algP W) Tryz.prog annF 86 [a0, a1, a2] σ R = fn86 Tryz.prog W a0 a1 a2 σ R := by kernel_rfl

/-- environ/environlaw19.Same$3 -/
def fn87 (Pr : Program) (W : CallP) (a0 a1 a2 : PV) (σ : St) (R : Res → St → Prop) : Prop :=
bindO False (opC.vBoxAny a0) fun z0 =>
bindO False (opC.vBoxAny a1) fun z1 =>
bindO False (vPart false 1 z0.2 0) fun v2 =>
bindO False (vPart false 1 z1.2 0) fun v3 =>
bindO False (vBin none .eql v2 v3) fun v4 =>
guardG False v4 true (fun J5 =>
bindO False (vPart false 1 z0.2 1) fun v8 =>
bindO False (vPart false 1 z1.2 1) fun v9 =>
bindO False (vLoad false 1 a2 σ) fun v10 =>
callB W 88 [v8, v9, v10] σ (fun v11 σ12 =>
J5 (lookE [(12, (.loc 3 1)), (13, (.v v8)), (14, (.loc 4 1)), (15, (.v v9)), (16, (.v v10)), (17, (.v v11))]) σ12) (fun e13 σ14 => R (.pan e13) σ14)) σ (fun y6 σ7 =>
bindO False (vPick v4 (y6 17).pv (.bool false)) fun v15 =>
weakW σ v15 σ7 fun v σ => R (.ret v) σ)

theorem fn87_eq (W : CallP) (a0 a1 a2 : PV) (σ : St) (R : Res → St → Prop) : bodyC (algP W) Tryz.prog annF 87 [a0, a1, a2] σ R = fn87 Tryz.prog W a0 a1 a2 σ R := by kernel_rfl

/-- slices.EqualFunc[[][]environ/hyper.Part,[][]environ/environref19.Part,[]environ/hyper.Part,[]environ/environref19.Part] -/
def fn88 (Pr : Program) (W : CallP) (a0 a1 a2 : PV) (σ : St) (R : Res → St → Prop) : Prop :=
bindO False (vLen .sl a0 σ) fun v0 =>
bindO False (vLen .sl a1 σ) fun v1 =>
bindO False (vBin none .neq v0 v1) fun v2 =>
condW v2 (
weakW σ (.bool false) σ fun v σ => R (.ret v) σ) (
CutW σ (fun J3 =>
bindO False (vLen .sl a0 σ) fun v6 =>
Lfp σ (fun Φ7 x8 σ9 =>
bindO False (vBin none .lss (x8 17) (x8 16)) fun v10 =>
condW v10 (
bindO False (vIndex 1 (x8 15) (x8 17)) fun v11 =>
bindO False (vLoad false 1 v11 σ9) fun v12 =>
bindO False (vIndex 1 (x8 1) (x8 17)) fun v13 =>
bindO False (vLoad false 1 v13 σ9) fun v14 =>
callG (algP W) Pr false (x8 2) [v12, v14] σ9 (fun v15 σ16 =>
bindO False (vUn .not v15) fun v17 =>
condW v17 (
weakW σ (.bool false) σ16 fun v σ => R (.ret v) σ) (
bindO False (vBin none .add (x8 17) (.int .i64 1)) fun v18 =>
Φ7 (lookP [(1, (x8 1)), (2, (x8 2)), (15, (x8 15)), (16, (x8 16)), (17, v18)]) σ16)) (fun e19 σ20 => R (.pan e19) σ20)) (
J3 (lookP []) σ9)) (lookP [(1, a1), (2, a2), (15, a0), (16, v6), (17, (.int .i64 0))]) σ) (fun x4 σ5 =>
weakW σ (.bool true) σ5 fun v σ => R (.ret v) σ))

theorem fn88_eq (W : CallP) (a0 a1 a2 : PV) (σ : St) (R : Res → St → Prop) : bodyC (algP W) Tryz.prog annF 88 [a0, a1, a2] σ R = fn88 Tryz.prog W a0 a1 a2 σ R := by kernel_rfl

/-- slices.EqualFunc[[]environ/hyper.Rule,[]environ/environref19.Rule,environ/hyper.Rule,environ/environref19.Rule] -/
def fn89 (Pr : Program) (W : CallP) (a0 a1 a2 : PV) (σ : St) (R : Res → St → Prop) : Prop :=
bindO False (vLen .sl a0 σ) fun v0 =>
bindO False (vLen .sl a1 σ) fun v1 =>
bindO False (vBin none .neq v0 v1) fun v2 =>
condW v2 (
weakW σ (.bool false) σ fun v σ => R (.ret v) σ) (
CutW σ (fun J3 =>
bindO False (vLen .sl a0 σ) fun v6 =>
Lfp σ (fun Φ7 x8 σ9 =>
bindO False (vBin none .lss (x8 17) (x8 16)) fun v10 =>
condW v10 (
bindO False (vIndex 2 (x8 15) (x8 17)) fun v11 =>
bindO False (vLoad true 2 v11 σ9) fun v12 =>
bindO False (vPut 2 (.agg [(.list .nil []), (.list .nil [])]) 0 v12) fun z13 =>
bindO False (vIndex 2 (x8 1) (x8 17)) fun v14 =>
bindO False (vLoad true 2 v14 σ9) fun v15 =>
bindO False (vPut 2 (.agg [(.list .nil []), (.list .nil [])]) 0 v15) fun z16 =>
bindO False (vPart true 2 z13 0) fun v17 =>
bindO False (vPart true 2 z16 0) fun v18 =>
callG (algP W) Pr false (x8 2) [v17, v18] σ9 (fun v19 σ20 =>
bindO False (vUn .not v19) fun v21 =>
condW v21 (
weakW σ (.bool false) σ20 fun v σ => R (.ret v) σ) (
bindO False (vBin none .add (x8 17) (.int .i64 1)) fun v22 =>
Φ7 (lookP [(1, (x8 1)), (2, (x8 2)), (15, (x8 15)), (16, (x8 16)), (17, v22)]) σ20)) (fun e23 σ24 => R (.pan e23) σ24)) (
J3 (lookP []) σ9)) (lookP [(1, a1), (2, a2), (15, a0), (16, v6), (17, (.int .i64 0))]) σ) (fun x4 σ5 =>
weakW σ (.bool true) σ5 fun v σ => R (.ret v) σ))

theorem fn89_eq (W : CallP) (a0 a1 a2 : PV) (σ : St) (R : Res → St → Prop) : bodyC (algP W) Tryz.prog annF 89 [a0, a1, a2] σ R = fn89 Tryz.prog W a0 a1 a2 σ R := by kernel_rfl

/-- environ/environlaw19.Same$4 -/
def fn90 (Pr : Program) (W : CallP) (a0 a1 a2 : PV) (σ : St) (R : Res → St → Prop) : Prop :=
bindO False (opC.vBoxAny a0) fun z0 =>
bindO False (opC.vBoxAny a1) fun z1 =>
bindO False (vLoad false 1 a2 σ) fun v2 =>
bindO False (vPart false 1 z0.2 0) fun v3 =>
bindO False (vPart false 1 z1.2 0) fun v4 =>
callG (algP W) Pr false v2 [v3, v4] σ (fun v5 σ6 =>
guardG False v5 true (fun J7 =>
bindO False (vPart false 1 z0.2 1) fun v10 =>
bindO False (vPart false 1 z1.2 1) fun v11 =>
bindO False (vLoad false 1 a2 σ6) fun v12 =>
callB W 88 [v10, v11, v12] σ6 (fun v13 σ14 =>
J7 (lookE [(13, (.loc 3 1)), (14, (.v v10)), (15, (.loc 4 1)), (16, (.v v11)), (17, (.v v12)), (18, (.v v13))]) σ14) (fun e15 σ16 => R (.pan e15) σ16)) σ6 (fun y8 σ9 =>
bindO False (vPick v5 (y8 18).pv (.bool false)) fun v17 =>
weakW σ v17 σ9 fun v σ => R (.ret v) σ)) (fun e18 σ19 => R (.pan e18) σ19)

theorem fn90_eq (W : CallP) (a0 a1 a2 : PV) (σ : St) (R : Res → St → Prop) : bodyC (algP W) Tryz.prog annF 90 [a0, a1, a2] σ R = fn90 Tryz.prog W a0 a1 a2 σ R := by kernel_rfl

end Go.Proofs.YtiniifbmeobmgaaGreatDoor
