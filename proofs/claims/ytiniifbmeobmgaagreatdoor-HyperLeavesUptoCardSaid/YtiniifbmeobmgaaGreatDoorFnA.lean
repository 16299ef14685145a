/- The bodies of some functions, as the abstract machine reads them (printed by wip/tools/Pr.lean), each held against the program's form by the kernel. -/
import Derived.KernelRfl
import Derived.Test.YtiniifbmeobmgaaGreatDoorAnn
import Derived.Test.YtiniifbmeobmgaaGreatDoorProg
set_option linter.unusedVariables false
namespace Go.Proofs.YtiniifbmeobmgaaGreatDoor
open Go Go.Abs

/-- environ/environlaw19.parts -/
def fn25 (Pr : Program) (W : CallP) (a0 : PV) (σ : St) (R : Res → St → Prop) : Prop :=
CutW σ (fun J0 =>
bindO False (vLen .sl a0 σ) fun v3 =>
Lfp σ (fun Φ4 x5 σ6 =>
bindO False (vBin none .lss (x5 8) (x5 7)) fun v7 =>
condW v7 (
bindO False (vIndex 2 (x5 6) (x5 8)) fun v8 =>
bindO False (vLoad true 2 v8 σ6) fun v9 =>
bindO False (vPut 2 (.agg [(.bool false), (.str [])]) 0 v9) fun z10 =>
bindO False (vPart true 2 z10 0) fun v11 =>
bindO False (vBuildSl 2 (List.replicate 1 (.agg [(.bool false), (.str [])])) [(0, v11)]) fun v12 =>
bindS (vAppend 2 24 (x5 3) (.list .full v12) σ6) fun v13 σ14 =>
bindO False (vBin none .add (x5 8) (.int .i64 1)) fun v15 =>
Φ4 (lookP [(3, v13), (6, (x5 6)), (7, (x5 7)), (8, v15)]) σ14) (
J0 (lookP [(3, (x5 3))]) σ6)) (lookP [(3, (.list .nil [])), (6, a0), (7, v3), (8, (.int .i64 0))]) σ) (fun x1 σ2 =>
weakW σ (x1 3) σ2 fun v σ => R (.ret v) σ)

theorem fn25_eq (W : CallP) (a0 : PV) (σ : St) (R : Res → St → Prop) : bodyC (algP W) Tryz.prog annF 25 [a0] σ R = fn25 Tryz.prog W a0 σ R := by kernel_rfl

/-- environ/hyper.Means -/
def fn30 (Pr : Program) (W : CallP) (a0 a1 : PV) (σ : St) (R : Res → St → Prop) : Prop :=
callB W 59 [a0, (.bool true)] σ (fun v0 σ1 =>
bindO False (vUn .not v0) fun v2 =>
condW v2 (
weakW σ (.tuple [(.str []), (.int .i64 8)]) σ1 fun v σ => R (.ret v) σ) (
bindO False (vLen .sl a0 σ1) fun v3 =>
Lfp σ (fun Φ4 x5 σ6 =>
bindO False (vBin none .lss (x5 17) (x5 16)) fun v7 =>
condW v7 (
bindO False (vIndex 2 (x5 15) (x5 17)) fun v8 =>
bindO False (vLoad true 2 v8 σ6) fun v9 =>
newW 2 (.agg [(.bool false), (.str [])]) σ6 fun p10 σ11 =>
bindO False (vStore 2 p10 v9 σ11) fun σ12 =>
bindO False (vField 0 p10) fun v13 =>
bindO False (vLoad false 1 v13 σ12) fun v14 =>
bindO False (vUn .not v14) fun v15 =>
condW v15 (
bindO False (vField 1 p10) fun v16 =>
bindO False (vLoad false 1 v16 σ12) fun v17 =>
bindO False (vBuildSl 1 (List.replicate 1 (.str [])) [(0, v17)]) fun v18 =>
bindS (vAppend 1 16 (x5 6) (.list .full v18) σ12) fun v19 σ20 =>
bindO False (vBin none .add (x5 17) (.int .i64 1)) fun v21 =>
Φ4 (lookP [(1, (x5 1)), (6, v19), (15, (x5 15)), (16, (x5 16)), (17, v21)]) σ20) (
callB W 96 [(x5 1), (.func 97 [p10])] σ12 (fun v22 σ23 =>
bindO False (vBin none .lss v22 (.int .i64 0)) fun v24 =>
condW v24 (
weakW σ (.tuple [(.str []), (.int .i64 4)]) σ23 fun v σ => R (.ret v) σ) (
bindO False (vIndex 2 (x5 1) v22) fun v25 =>
bindO False (vField 1 v25) fun v26 =>
bindO False (vLoad false 1 v26 σ23) fun v27 =>
callB W 71 [v27] σ23 (fun v28 σ29 =>
bindO False (vExtract v28 0) fun v30 =>
bindO False (vExtract v28 1) fun v31 =>
bindO False (vUn .not v31) fun v32 =>
condW v32 (
weakW σ (.tuple [(.str []), (.int .i64 2)]) σ29 fun v σ => R (.ret v) σ) (
bindS (vAppend 1 16 (x5 6) v30 σ29) fun v33 σ34 =>
bindO False (vBin none .add (x5 17) (.int .i64 1)) fun v35 =>
Φ4 (lookP [(1, (x5 1)), (6, v33), (15, (x5 15)), (16, (x5 16)), (17, v35)]) σ34)) (fun e36 σ37 => R (.pan e36) σ37))) (fun e38 σ39 => R (.pan e38) σ39))) (
callB W 98 [(x5 6), (.str [32])] σ6 (fun v40 σ41 =>
weakW σ (.tuple [v40, (.int .i64 0)]) σ41 fun v σ => R (.ret v) σ) (fun e42 σ43 => R (.pan e42) σ43))) (lookP [(1, a1), (6, (.list .nil [])), (15, a0), (16, v3), (17, (.int .i64 0))]) σ1)) (fun e44 σ45 => R (.pan e44) σ45)

theorem fn30_eq (W : CallP) (a0 a1 : PV) (σ : St) (R : Res → St → Prop) : bodyC (algP W) Tryz.prog annF 30 [a0, a1] σ R = fn30 Tryz.prog W a0 a1 σ R := by kernel_rfl

/-- environ/hyper.isMeta -/
def fn57 (Pr : Program) (W : CallP) (a0 : PV) (σ : St) (R : Res → St → Prop) : Prop :=
bindO False (vBin none .neq a0 (.str [69, 77, 80, 84, 89])) fun v0 =>
guardG False v0 true (fun J1 =>
callB W 123 [a0, (.int .u8 65), (.int .u8 90)] σ (fun v4 σ5 =>
J1 (lookE [(6, (.v a0)), (7, (.v v4))]) σ5) (fun e6 σ7 => R (.pan e6) σ7)) σ (fun y2 σ3 =>
bindO False (vPick v0 (y2 7).pv (.bool false)) fun v8 =>
weakW σ v8 σ3 fun v σ => R (.ret v) σ)

theorem fn57_eq (W : CallP) (a0 : PV) (σ : St) (R : Res → St → Prop) : bodyC (algP W) Tryz.prog annF 57 [a0] σ R = fn57 Tryz.prog W a0 σ R := by kernel_rfl

/-- environ/hyper.named -/
def fn59 (Pr : Program) (W : CallP) (a0 a1 : PV) (σ : St) (R : Res → St → Prop) : Prop :=
bindO False (opC.vBoxAny a1) fun z0 =>
if 0 < z0.1 then newW z0.1 z0.2 σ fun p1 σ2 =>
callB W 62 [a0, (.func 124 [p1])] σ2 (fun v3 σ4 =>
bindO False (vUn .not v3) fun v5 =>
weakW σ v5 σ4 fun v σ => R (.ret v) σ) (fun e6 σ7 => R (.pan e6) σ7) else False

theorem fn59_eq (W : CallP) (a0 a1 : PV) (σ : St) (R : Res → St → Prop) : bodyC (algP W) Tryz.prog annF 59 [a0, a1] σ R = fn59 Tryz.prog W a0 a1 σ R := by kernel_rfl

/-- slices.ContainsFunc[[]environ/hyper.Part,environ/hyper.Part] -/
def fn62 (Pr : Program) (W : CallP) (a0 a1 : PV) (σ : St) (R : Res → St → Prop) : Prop :=
callB W 127 [a0, a1] σ (fun v0 σ1 =>
bindO False (vBin none .geq v0 (.int .i64 0)) fun v2 =>
weakW σ v2 σ1 fun v σ => R (.ret v) σ) (fun e3 σ4 => R (.pan e3) σ4)

theorem fn62_eq (W : CallP) (a0 a1 : PV) (σ : St) (R : Res → St → Prop) : bodyC (algP W) Tryz.prog annF 62 [a0, a1] σ R = fn62 Tryz.prog W a0 a1 σ R := by kernel_rfl

/-- environ/hyper.metaOf -/
def fn64 (Pr : Program) (W : CallP) (a0 : PV) (σ : St) (R : Res → St → Prop) : Prop :=
bindO False (vLen .str a0 σ) fun v0 =>
bindO False (vBin none .gtr v0 (.int .i64 0)) fun v1 =>
guardG False v1 true (fun J2 =>
bindO False (vBin none .sub v0 (.int .i64 1)) fun v5 =>
bindO False (vStrAt a0 v5) fun v6 =>
bindO False (vBin none .geq v6 (.int .u8 49)) fun v7 =>
J2 (lookE [(9, (.v a0)), (10, (.v v0)), (11, (.v v5)), (12, (.v v6)), (13, (.v v7))]) σ) σ (fun y3 σ4 =>
bindO False (vPick v1 (y3 13).pv (.bool false)) fun v8 =>
guardG False v8 true (fun J9 =>
bindO False (vBin none .sub v0 (.int .i64 1)) fun v12 =>
bindO False (vStrAt a0 v12) fun v13 =>
bindO False (vBin none .leq v13 (.int .u8 57)) fun v14 =>
J9 (lookE [(16, (.v a0)), (17, (.v v0)), (18, (.v v12)), (19, (.v v13)), (20, (.v v14))]) σ4) σ4 (fun y10 σ11 =>
bindO False (vPick v8 (y10 20).pv (.bool false)) fun v15 =>
condW v15 (
bindO False (vBin none .sub v0 (.int .i64 1)) fun v16 =>
bindO False (vSubStr a0 none (some v16)) fun v17 =>
weakW σ v17 σ11 fun v σ => R (.ret v) σ) (
weakW σ a0 σ11 fun v σ => R (.ret v) σ)))

theorem fn64_eq (W : CallP) (a0 : PV) (σ : St) (R : Res → St → Prop) : bodyC (algP W) Tryz.prog annF 64 [a0] σ R = fn64 Tryz.prog W a0 σ R := by kernel_rfl

/-- environ/environref19.isMeta -/
def fn66 (Pr : Program) (W : CallP) (a0 : PV) (σ : St) (R : Res → St → Prop) : Prop :=
callB W 128 [a0, (.int .u8 65), (.int .u8 90)] σ (fun v0 σ1 =>
guardG False v0 true (fun J2 =>
bindO False (vBin none .neq a0 (.str [69, 77, 80, 84, 89])) fun v5 =>
J2 (lookE [(6, (.v a0)), (7, (.v v5))]) σ1) σ1 (fun y3 σ4 =>
bindO False (vPick v0 (y3 7).pv (.bool false)) fun v6 =>
weakW σ v6 σ4 fun v σ => R (.ret v) σ)) (fun e7 σ8 => R (.pan e7) σ8)

theorem fn66_eq (W : CallP) (a0 : PV) (σ : St) (R : Res → St → Prop) : bodyC (algP W) Tryz.prog annF 66 [a0] σ R = fn66 Tryz.prog W a0 σ R := by kernel_rfl

/-- environ/environref19.named -/
def fn68 (Pr : Program) (W : CallP) (a0 a1 : PV) (σ : St) (R : Res → St → Prop) : Prop :=
CutW σ (fun J0 =>
Lfp σ (fun Φ3 x4 σ5 =>
bindO False (vLen .sl (x4 0) σ5) fun v6 =>
bindO False (vBin none .lss (x4 5) v6) fun v7 =>
condW v7 (
bindO False (vIndex 2 (x4 0) (x4 5)) fun v8 =>
bindO False (vLoad true 2 v8 σ5) fun v9 =>
bindO False (vPut 2 (.agg [(.bool false), (.str [])]) 0 v9) fun z10 =>
bindO False (vPart false 1 z10 0) fun v11 =>
guardG False v11 true (fun J12 =>
bindO False (vPart false 1 z10 1) fun v15 =>
callB W 66 [v15] σ5 (fun v16 σ17 =>
bindO False (vUn .not v16) fun v18 =>
J12 (lookE [(20, (.loc 6 1)), (21, (.v v15)), (22, (.v v16)), (23, (.v v18))]) σ17) (fun e19 σ20 => R (.pan e19) σ20)) σ5 (fun y13 σ14 =>
bindO False (vPick v11 (y13 23).pv (.bool false)) fun v21 =>
guardG False v21 true (fun J22 =>
J22 (lookE [(26, (.v (x4 1))), (27, (.v (x4 1)))]) σ14) σ14 (fun y23 σ24 =>
guardG False (y23 27).pv true (fun J25 =>
bindO False (vPart false 1 z10 1) fun v28 =>
callB W 129 [v28] σ24 (fun v29 σ30 =>
bindO False (vBin none .neq v29 (.str [])) fun v31 =>
J25 (lookE [(28, (.loc 6 1)), (29, (.v v28)), (30, (.v v29)), (31, (.v v31))]) σ30) (fun e32 σ33 => R (.pan e32) σ33)) σ24 (fun y26 σ27 =>
guardG False v21 true (fun J34 =>
bindO False (vPick (y23 27).pv (y26 31).pv (.bool false)) fun v37 =>
bindO False (vUn .not v37) fun v38 =>
J34 (lookE [(32, (.v v37)), (33, (.v v38))]) σ27) σ27 (fun y35 σ36 =>
bindO False (vPick v21 (y35 33).pv (.bool false)) fun v39 =>
guardG False v39 false (fun J40 =>
bindO False (vPart false 1 z10 0) fun v43 =>
bindO False (vUn .not v43) fun v44 =>
J40 (lookE [(36, (.loc 6 0)), (37, (.v v43)), (38, (.v v44)), (39, (.v v44))]) σ36) σ36 (fun y41 σ42 =>
guardG False (y41 39).pv true (fun J45 =>
bindO False (vPart false 1 z10 1) fun v48 =>
callB W 130 [v48] σ42 (fun v49 σ50 =>
bindO False (vUn .not v49) fun v51 =>
J45 (lookE [(40, (.loc 6 1)), (41, (.v v48)), (42, (.v v49)), (43, (.v v51))]) σ50) (fun e52 σ53 => R (.pan e52) σ53)) σ42 (fun y46 σ47 =>
guardG False v39 false (fun J54 =>
bindO False (vPick (y41 39).pv (y46 43).pv (.bool false)) fun v57 =>
J54 (lookE [(44, (.v v57))]) σ47) σ47 (fun y55 σ56 =>
bindO False (vPick v39 (.bool true) (y55 44).pv) fun v58 =>
condW v58 (
weakW σ (.int .i64 8) σ56 fun v σ => R (.ret v) σ) (
bindO False (vBin none .add (x4 5) (.int .i64 1)) fun v59 =>
Φ3 (lookP [(0, (x4 0)), (1, (x4 1)), (5, v59)]) σ56))))))))) (
J0 (lookP []) σ5)) (lookP [(0, a0), (1, a1), (5, (.int .i64 0))]) σ) (fun x1 σ2 =>
weakW σ (.int .i64 0) σ2 fun v σ => R (.ret v) σ)

theorem fn68_eq (W : CallP) (a0 a1 : PV) (σ : St) (R : Res → St → Prop) : bodyC (algP W) Tryz.prog annF 68 [a0, a1] σ R = fn68 Tryz.prog W a0 a1 σ R := by kernel_rfl

/-- environ/hyper.words -/
def fn71 (Pr : Program) (W : CallP) (a0 : PV) (σ : St) (R : Res → St → Prop) : Prop :=
bindO False (vBin none .eql a0 (.str [])) fun v0 =>
condW v0 (
weakW σ (.tuple [(.list .nil []), (.bool true)]) σ fun v σ => R (.ret v) σ) (
callB W 131 [a0, (.str [32])] σ (fun v1 σ2 =>
callB W 132 [v1, (.func 133 [])] σ2 (fun v3 σ4 =>
bindO False (vUn .not v3) fun v5 =>
weakW σ (.tuple [v1, v5]) σ4 fun v σ => R (.ret v) σ) (fun e6 σ7 => R (.pan e6) σ7)) (fun e8 σ9 => R (.pan e8) σ9))

theorem fn71_eq (W : CallP) (a0 : PV) (σ : St) (R : Res → St → Prop) : bodyC (algP W) Tryz.prog annF 71 [a0] σ R = fn71 Tryz.prog W a0 σ R := by kernel_rfl

/-- slices.IndexFunc[[]environ/hyper.Bind,environ/hyper.Bind] -/
def fn96 (Pr : Program) (W : CallP) (a0 a1 : PV) (σ : St) (R : Res → St → Prop) : Prop :=
bindO False (vLen .sl a0 σ) fun v0 =>
Lfp σ (fun Φ1 x2 σ3 =>
bindO False (vBin none .lss (x2 8) (x2 7)) fun v4 =>
condW v4 (
bindO False (vIndex 2 (x2 0) (x2 8)) fun v5 =>
bindO False (vLoad true 2 v5 σ3) fun v6 =>
callG (algP W) Pr false (x2 1) [v6] σ3 (fun v7 σ8 =>
condW v7 (
weakW σ (x2 8) σ8 fun v σ => R (.ret v) σ) (
bindO False (vBin none .add (x2 8) (.int .i64 1)) fun v9 =>
Φ1 (lookP [(0, (x2 0)), (1, (x2 1)), (7, (x2 7)), (8, v9)]) σ8)) (fun e10 σ11 => R (.pan e10) σ11)) (
weakW σ (.int .i64 (-1)) σ3 fun v σ => R (.ret v) σ)) (lookP [(0, a0), (1, a1), (7, v0), (8, (.int .i64 0))]) σ

theorem fn96_eq (W : CallP) (a0 a1 : PV) (σ : St) (R : Res → St → Prop) : bodyC (algP W) Tryz.prog annF 96 [a0, a1] σ R = fn96 Tryz.prog W a0 a1 σ R := by kernel_rfl

/-- environ/hyper.Means$1 -/
def fn97 (Pr : Program) (W : CallP) (a0 a1 : PV) (σ : St) (R : Res → St → Prop) : Prop :=
bindO False (opC.vBoxAny a0) fun z0 =>
bindO False (vPart false 1 z0.2 0) fun v1 =>
bindO False (vField 1 a1) fun v2 =>
bindO False (vLoad false 1 v2 σ) fun v3 =>
bindO False (vBin none .eql v1 v3) fun v4 =>
weakW σ v4 σ fun v σ => R (.ret v) σ

theorem fn97_eq (W : CallP) (a0 a1 : PV) (σ : St) (R : Res → St → Prop) : bodyC (algP W) Tryz.prog annF 97 [a0, a1] σ R = fn97 Tryz.prog W a0 a1 σ R := by kernel_rfl

/-- environ/hyper.within -/
def fn123 (Pr : Program) (W : CallP) (a0 a1 a2 : PV) (σ : St) (R : Res → St → Prop) : Prop :=
bindO False (vLen .str a0 σ) fun v0 =>
Lfp σ (fun Φ1 x2 σ3 =>
bindO False (vBin none .lss (x2 10) (x2 9)) fun v4 =>
condW v4 (
bindO False (vStrAt (x2 0) (x2 10)) fun v5 =>
bindO False (vBin none .lss v5 (x2 1)) fun v6 =>
guardG False v6 false (fun J7 =>
bindO False (vStrAt (x2 0) (x2 10)) fun v10 =>
bindO False (vBin none .gtr v10 (x2 2)) fun v11 =>
J7 (lookE [(19, (.v (x2 0))), (20, (.v (x2 10))), (21, (.v v10)), (22, (.v (x2 2))), (23, (.v v11))]) σ3) σ3 (fun y8 σ9 =>
bindO False (vPick v6 (.bool true) (y8 23).pv) fun v12 =>
condW v12 (
weakW σ (.bool false) σ9 fun v σ => R (.ret v) σ) (
bindO False (vBin none .add (x2 10) (.int .i64 1)) fun v13 =>
Φ1 (lookP [(0, (x2 0)), (1, (x2 1)), (2, (x2 2)), (9, (x2 9)), (10, v13)]) σ9))) (
bindO False (vLen .str (x2 0) σ3) fun v14 =>
bindO False (vBin none .geq v14 (.int .i64 1)) fun v15 =>
guardG False v15 true (fun J16 =>
bindO False (vLen .str (x2 0) σ3) fun v19 =>
bindO False (vBin none .leq v19 (.int .i64 40)) fun v20 =>
J16 (lookE [(30, (.v (x2 0))), (31, (.v v19)), (32, (.v v20))]) σ3) σ3 (fun y17 σ18 =>
bindO False (vPick v15 (y17 32).pv (.bool false)) fun v21 =>
weakW σ v21 σ18 fun v σ => R (.ret v) σ))) (lookP [(0, a0), (1, a1), (2, a2), (9, v0), (10, (.int .i64 0))]) σ

theorem fn123_eq (W : CallP) (a0 a1 a2 : PV) (σ : St) (R : Res → St → Prop) : bodyC (algP W) Tryz.prog annF 123 [a0, a1, a2] σ R = fn123 Tryz.prog W a0 a1 a2 σ R := by kernel_rfl

/-- environ/hyper.named$1 -/
def fn124 (Pr : Program) (W : CallP) (a0 a1 : PV) (σ : St) (R : Res → St → Prop) : Prop :=
bindO False (opC.vBoxAny a0) fun z0 =>
bindO False (vPart false 1 z0.2 0) fun v1 =>
bindO False (vUn .not v1) fun v2 =>
guardG False v2 true (fun J3 =>
bindO False (vPart false 1 z0.2 1) fun v6 =>
callB W 125 [v6] σ (fun v7 σ8 =>
bindO False (vUn .not v7) fun v9 =>
J3 (lookE [(8, (.loc 2 1)), (9, (.v v6)), (10, (.v v7)), (11, (.v v9))]) σ8) (fun e10 σ11 => R (.pan e10) σ11)) σ (fun y4 σ5 =>
bindO False (vPick v2 (y4 11).pv (.bool false)) fun v12 =>
guardG False v12 false (fun J13 =>
bindO False (vPart false 1 z0.2 0) fun v16 =>
J13 (lookE [(14, (.loc 2 0)), (15, (.v v16)), (16, (.v v16))]) σ5) σ5 (fun y14 σ15 =>
guardG False (y14 16).pv true (fun J17 =>
bindO False (vPart false 1 z0.2 1) fun v20 =>
callB W 57 [v20] σ15 (fun v21 σ22 =>
bindO False (vUn .not v21) fun v23 =>
J17 (lookE [(17, (.loc 2 1)), (18, (.v v20)), (19, (.v v21)), (20, (.v v23))]) σ22) (fun e24 σ25 => R (.pan e24) σ25)) σ15 (fun y18 σ19 =>
guardG False v12 false (fun J26 =>
bindO False (vPick (y14 16).pv (y18 20).pv (.bool false)) fun v29 =>
J26 (lookE [(21, (.v v29)), (22, (.v v29))]) σ19) σ19 (fun y27 σ28 =>
guardG False (y27 22).pv true (fun J30 =>
bindO False (vLoad false 1 a1 σ28) fun v33 =>
bindO False (vUn .not v33) fun v34 =>
J30 (lookE [(23, (.v v33)), (24, (.v v34)), (25, (.v v34))]) σ28) σ28 (fun y31 σ32 =>
guardG False (y31 25).pv false (fun J35 =>
bindO False (vPart false 1 z0.2 1) fun v38 =>
callB W 126 [v38] σ32 (fun v39 σ40 =>
bindO False (vUn .not v39) fun v41 =>
J35 (lookE [(26, (.loc 2 1)), (27, (.v v38)), (28, (.v v39)), (29, (.v v41))]) σ40) (fun e42 σ43 => R (.pan e42) σ43)) σ32 (fun y36 σ37 =>
guardG False (y27 22).pv true (fun J44 =>
bindO False (vPick (y31 25).pv (.bool true) (y36 29).pv) fun v47 =>
J44 (lookE [(30, (.v v47))]) σ37) σ37 (fun y45 σ46 =>
guardG False v12 false (fun J48 =>
bindO False (vPick (y27 22).pv (y45 30).pv (.bool false)) fun v51 =>
J48 (lookE [(31, (.v v51))]) σ46) σ46 (fun y49 σ50 =>
bindO False (vPick v12 (.bool true) (y49 31).pv) fun v52 =>
weakW σ v52 σ50 fun v σ => R (.ret v) σ))))))))

theorem fn124_eq (W : CallP) (a0 a1 : PV) (σ : St) (R : Res → St → Prop) : bodyC (algP W) Tryz.prog annF 124 [a0, a1] σ R = fn124 Tryz.prog W a0 a1 σ R := by kernel_rfl

/-- environ/hyper.isWord -/
def fn125 (Pr : Program) (W : CallP) (a0 : PV) (σ : St) (R : Res → St → Prop) : Prop :=
callB W 123 [a0, (.int .u8 97), (.int .u8 122)] σ (fun v0 σ1 =>
weakW σ v0 σ1 fun v σ => R (.ret v) σ) (fun e2 σ3 => R (.pan e2) σ3)

theorem fn125_eq (W : CallP) (a0 : PV) (σ : St) (R : Res → St → Prop) : bodyC (algP W) Tryz.prog annF 125 [a0] σ R = fn125 Tryz.prog W a0 σ R := by kernel_rfl

/-- environ/hyper.isParameter -/
def fn126 (Pr : Program) (W : CallP) (a0 : PV) (σ : St) (R : Res → St → Prop) : Prop :=
callB W 64 [a0] σ (fun v0 σ1 =>
callB W 57 [v0] σ1 (fun v2 σ3 =>
weakW σ v2 σ3 fun v σ => R (.ret v) σ) (fun e4 σ5 => R (.pan e4) σ5)) (fun e6 σ7 => R (.pan e6) σ7)

theorem fn126_eq (W : CallP) (a0 : PV) (σ : St) (R : Res → St → Prop) : bodyC (algP W) Tryz.prog annF 126 [a0] σ R = fn126 Tryz.prog W a0 σ R := by kernel_rfl

/-- slices.IndexFunc[[]environ/hyper.Part,environ/hyper.Part] -/
def fn127 (Pr : Program) (W : CallP) (a0 a1 : PV) (σ : St) (R : Res → St → Prop) : Prop :=
bindO False (vLen .sl a0 σ) fun v0 =>
Lfp σ (fun Φ1 x2 σ3 =>
bindO False (vBin none .lss (x2 8) (x2 7)) fun v4 =>
condW v4 (
bindO False (vIndex 2 (x2 0) (x2 8)) fun v5 =>
bindO False (vLoad true 2 v5 σ3) fun v6 =>
callG (algP W) Pr false (x2 1) [v6] σ3 (fun v7 σ8 =>
condW v7 (
weakW σ (x2 8) σ8 fun v σ => R (.ret v) σ) (
bindO False (vBin none .add (x2 8) (.int .i64 1)) fun v9 =>
Φ1 (lookP [(0, (x2 0)), (1, (x2 1)), (7, (x2 7)), (8, v9)]) σ8)) (fun e10 σ11 => R (.pan e10) σ11)) (
weakW σ (.int .i64 (-1)) σ3 fun v σ => R (.ret v) σ)) (lookP [(0, a0), (1, a1), (7, v0), (8, (.int .i64 0))]) σ

theorem fn127_eq (W : CallP) (a0 a1 : PV) (σ : St) (R : Res → St → Prop) : bodyC (algP W) Tryz.prog annF 127 [a0, a1] σ R = fn127 Tryz.prog W a0 a1 σ R := by kernel_rfl

/-- environ/environref19.all -/
def fn128 (Pr : Program) (W : CallP) (a0 a1 a2 : PV) (σ : St) (R : Res → St → Prop) : Prop :=
CutW σ (fun J0 =>
Lfp σ (fun Φ3 x4 σ5 =>
bindO False (vLen .str (x4 0) σ5) fun v6 =>
bindO False (vBin none .lss (x4 7) v6) fun v7 =>
condW v7 (
bindO False (vStrAt (x4 0) (x4 7)) fun v8 =>
bindO False (vBin none .lss v8 (x4 1)) fun v9 =>
guardG False v9 false (fun J10 =>
bindO False (vStrAt (x4 0) (x4 7)) fun v13 =>
bindO False (vBin none .gtr v13 (x4 2)) fun v14 =>
J10 (lookE [(20, (.v (x4 0))), (21, (.v (x4 7))), (22, (.v v13)), (23, (.v (x4 2))), (24, (.v v14))]) σ5) σ5 (fun y11 σ12 =>
bindO False (vPick v9 (.bool true) (y11 24).pv) fun v15 =>
condW v15 (
weakW σ (.bool false) σ12 fun v σ => R (.ret v) σ) (
bindO False (vBin none .add (x4 7) (.int .i64 1)) fun v16 =>
Φ3 (lookP [(0, (x4 0)), (1, (x4 1)), (2, (x4 2)), (7, v16)]) σ12))) (
J0 (lookP [(0, (x4 0))]) σ5)) (lookP [(0, a0), (1, a1), (2, a2), (7, (.int .i64 0))]) σ) (fun x1 σ2 =>
bindO False (vLen .str (x1 0) σ2) fun v17 =>
bindO False (vBin none .geq v17 (.int .i64 1)) fun v18 =>
guardG False v18 true (fun J19 =>
bindO False (vLen .str (x1 0) σ2) fun v22 =>
bindO False (vBin none .leq v22 (.int .i64 40)) fun v23 =>
J19 (lookE [(30, (.v (x1 0))), (31, (.v v22)), (32, (.v v23))]) σ2) σ2 (fun y20 σ21 =>
bindO False (vPick v18 (y20 32).pv (.bool false)) fun v24 =>
weakW σ v24 σ21 fun v σ => R (.ret v) σ))

theorem fn128_eq (W : CallP) (a0 a1 a2 : PV) (σ : St) (R : Res → St → Prop) : bodyC (algP W) Tryz.prog annF 128 [a0, a1, a2] σ R = fn128 Tryz.prog W a0 a1 a2 σ R := by kernel_rfl

/-- environ/environref19.Base -/
def fn129 (Pr : Program) (W : CallP) (a0 : PV) (σ : St) (R : Res → St → Prop) : Prop :=
CutW σ (fun J0 =>
bindO False (vLen .str a0 σ) fun v3 =>
bindO False (vBin none .sub v3 (.int .i64 1)) fun v4 =>
bindO False (vBin none .gtr v4 (.int .i64 0)) fun v5 =>
guardG False v5 true (fun J6 =>
bindO False (vStrAt a0 v4) fun v9 =>
bindO False (vBin none .geq v9 (.int .u8 49)) fun v10 =>
J6 (lookE [(10, (.v a0)), (11, (.v v4)), (12, (.v v9)), (13, (.v v10))]) σ) σ (fun y7 σ8 =>
bindO False (vPick v5 (y7 13).pv (.bool false)) fun v11 =>
guardG False v11 true (fun J12 =>
bindO False (vStrAt a0 v4) fun v15 =>
bindO False (vBin none .leq v15 (.int .u8 57)) fun v16 =>
J12 (lookE [(16, (.v a0)), (17, (.v v4)), (18, (.v v15)), (19, (.v v16))]) σ8) σ8 (fun y13 σ14 =>
bindO False (vPick v11 (y13 19).pv (.bool false)) fun v17 =>
condW v17 (
bindO False (vSubStr a0 none (some v4)) fun v18 =>
J0 (lookP [(0, v18)]) σ14) (
J0 (lookP [(0, a0)]) σ14)))) (fun x1 σ2 =>
callB W 66 [(x1 0)] σ2 (fun v19 σ20 =>
bindO False (vUn .not v19) fun v21 =>
condW v21 (
weakW σ (.str []) σ20 fun v σ => R (.ret v) σ) (
weakW σ (x1 0) σ20 fun v σ => R (.ret v) σ)) (fun e22 σ23 => R (.pan e22) σ23))

theorem fn129_eq (W : CallP) (a0 : PV) (σ : St) (R : Res → St → Prop) : bodyC (algP W) Tryz.prog annF 129 [a0] σ R = fn129 Tryz.prog W a0 σ R := by kernel_rfl

/-- environ/environref19.IsWord -/
def fn130 (Pr : Program) (W : CallP) (a0 : PV) (σ : St) (R : Res → St → Prop) : Prop :=
callB W 128 [a0, (.int .u8 97), (.int .u8 122)] σ (fun v0 σ1 =>
weakW σ v0 σ1 fun v σ => R (.ret v) σ) (fun e2 σ3 => R (.pan e2) σ3)

theorem fn130_eq (W : CallP) (a0 : PV) (σ : St) (R : Res → St → Prop) : bodyC (algP W) Tryz.prog annF 130 [a0] σ R = fn130 Tryz.prog W a0 σ R := by kernel_rfl

/-- slices.ContainsFunc[[]string,string] -/
def fn132 (Pr : Program) (W : CallP) (a0 a1 : PV) (σ : St) (R : Res → St → Prop) : Prop :=
callB W 166 [a0, a1] σ (fun v0 σ1 =>
bindO False (vBin none .geq v0 (.int .i64 0)) fun v2 =>
weakW σ v2 σ1 fun v σ => R (.ret v) σ) (fun e3 σ4 => R (.pan e3) σ4)

theorem fn132_eq (W : CallP) (a0 a1 : PV) (σ : St) (R : Res → St → Prop) : bodyC (algP W) Tryz.prog annF 132 [a0, a1] σ R = fn132 Tryz.prog W a0 a1 σ R := by kernel_rfl

/-- environ/hyper.words$1 -/
def fn133 (Pr : Program) (W : CallP) (a0 : PV) (σ : St) (R : Res → St → Prop) : Prop :=
callB W 125 [a0] σ (fun v0 σ1 =>
bindO False (vUn .not v0) fun v2 =>
weakW σ v2 σ1 fun v σ => R (.ret v) σ) (fun e3 σ4 => R (.pan e3) σ4)

theorem fn133_eq (W : CallP) (a0 : PV) (σ : St) (R : Res → St → Prop) : bodyC (algP W) Tryz.prog annF 133 [a0] σ R = fn133 Tryz.prog W a0 σ R := by kernel_rfl

/-- slices.IndexFunc[[]string,string] -/
def fn166 (Pr : Program) (W : CallP) (a0 a1 : PV) (σ : St) (R : Res → St → Prop) : Prop :=
bindO False (vLen .sl a0 σ) fun v0 =>
Lfp σ (fun Φ1 x2 σ3 =>
bindO False (vBin none .lss (x2 8) (x2 7)) fun v4 =>
condW v4 (
bindO False (vIndex 1 (x2 0) (x2 8)) fun v5 =>
bindO False (vLoad false 1 v5 σ3) fun v6 =>
callG (algP W) Pr false (x2 1) [v6] σ3 (fun v7 σ8 =>
condW v7 (
weakW σ (x2 8) σ8 fun v σ => R (.ret v) σ) (
bindO False (vBin none .add (x2 8) (.int .i64 1)) fun v9 =>
Φ1 (lookP [(0, (x2 0)), (1, (x2 1)), (7, (x2 7)), (8, v9)]) σ8)) (fun e10 σ11 => R (.pan e10) σ11)) (
weakW σ (.int .i64 (-1)) σ3 fun v σ => R (.ret v) σ)) (lookP [(0, a0), (1, a1), (7, v0), (8, (.int .i64 0))]) σ

theorem fn166_eq (W : CallP) (a0 a1 : PV) (σ : St) (R : Res → St → Prop) : bodyC (algP W) Tryz.prog annF 166 [a0, a1] σ R = fn166 Tryz.prog W a0 a1 σ R := by kernel_rfl

end Go.Proofs.YtiniifbmeobmgaaGreatDoor
