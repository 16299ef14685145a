/- The bodies of some functions, as the abstract machine reads them (printed by wip/tools/Pr.lean), each held against the program's form by the kernel. -/
import Derived.KernelRfl
import Derived.Test.YtiniifbmeobmgaaGreatDoorAnn
import Derived.Test.YtiniifbmeobmgaaGreatDoorProg
set_option linter.unusedVariables false
namespace Go.Proofs.YtiniifbmeobmgaaGreatDoor
open Go Go.Abs

/-- environ/hyper.Verify -/
def fn41 (Pr : Program) (W : CallP) (a0 a1 a2 : PV) (σ : St) (R : Res → St → Prop) : Prop :=
bindO False (opC.vBoxAny a0) fun z0 =>
bindO False (opC.vBoxAny a2) fun z1 =>
bindO False (vPart true 2 z0.2 0) fun v2 =>
callB W 15 [v2] σ (fun v3 σ4 =>
bindO False (vBin none .neq v3 (.int .i64 0)) fun v5 =>
condW v5 (
weakW σ (.tuple [(.list .nil []), v3]) σ4 fun v σ => R (.ret v) σ) (
bindO False (vPart true 4 z1.2 0) fun v6 =>
callB W 45 [v6] σ4 (fun v7 σ8 =>
bindO False (vBin none .gtr v7 (.int .i64 100000)) fun v9 =>
condW v9 (
weakW σ (.tuple [(.list .nil []), (.int .i64 3)]) σ8 fun v σ => R (.ret v) σ) (
callB W 71 [a1] σ8 (fun v10 σ11 =>
bindO False (vExtract v10 0) fun v12 =>
bindO False (vExtract v10 1) fun v13 =>
bindO False (vUn .not v13) fun v14 =>
condW v14 (
weakW σ (.tuple [(.list .nil []), (.int .i64 14)]) σ11 fun v σ => R (.ret v) σ) (
bindO False (vPart true 2 z0.2 0) fun v15 =>
bindO False (vBuild [(.list .nil []), (.list .nil []), (.list .nil [])] [(0, 2, v15)]) fun v16 =>
bindO False (opC.vBoxAny (.agg v16)) fun z17 =>
if 0 < z17.1 then newW z17.1 z17.2 σ11 fun p18 σ19 =>
bindO False (vPart true 4 z1.2 0) fun v20 =>
callB W 117 [p18, a1, v20] σ19 (fun v21 σ22 =>
bindO False (vBin none .neq v21 (.int .i64 0)) fun v23 =>
condW v23 (
weakW σ (.tuple [(.list .nil []), v21]) σ22 fun v σ => R (.ret v) σ) (
bindO False (vNil p18) fun v24 =>
bindO False (vField 2 v24) fun v25 =>
bindO False (vLoad false 1 v25 σ22) fun v26 =>
weakW σ (.tuple [v26, (.int .i64 0)]) σ22 fun v σ => R (.ret v) σ)) (fun e27 σ28 => R (.pan e27) σ28) else False)) (fun e29 σ30 => R (.pan e29) σ30))) (fun e31 σ32 => R (.pan e31) σ32))) (fun e33 σ34 => R (.pan e33) σ34)

theorem fn41_eq (W : CallP) (a0 a1 a2 : PV) (σ : St) (R : Res → St → Prop) : bodyC (algP W) Tryz.prog annF 41 [a0, a1, a2] σ R = fn41 Tryz.prog W a0 a1 a2 σ R := by kernel_rfl

/-- (*environ/hyper.kernel).verify -/
def fn117 (Pr : Program) (W : CallP) (a0 a1 a2 : PV) (σ : St) (R : Res → St → Prop) : Prop :=
bindO False (opC.vBoxAny a2) fun z0 =>
bindO False (vPart false 1 z0.2 1) fun v1 =>
bindO False (vBin none .neq v1 a1) fun v2 =>
condW v2 (
weakW σ (.int .i64 14) σ fun v σ => R (.ret v) σ) (
callB W 160 [a1] σ (fun v3 σ4 =>
guardG False v3 false (fun J5 =>
bindO False (vPart false 1 z0.2 0) fun v8 =>
bindO False (vBin none .eql v8 (.int .i64 (-1))) fun v9 =>
J5 (lookE [(23, (.loc 5 0)), (24, (.v v8)), (25, (.v v9))]) σ4) σ4 (fun y6 σ7 =>
bindO False (vPick v3 (.bool true) (y6 25).pv) fun v10 =>
condW v10 (
callB W 160 [a1] σ7 (fun v11 σ12 =>
bindO False (vUn .not v11) fun v13 =>
guardG False v13 false (fun J14 =>
bindO False (vPart false 1 z0.2 0) fun v17 =>
bindO False (vBin none .neq v17 (.int .i64 (-1))) fun v18 =>
J14 (lookE [(31, (.loc 5 0)), (32, (.v v17)), (33, (.v v18))]) σ12) σ12 (fun y15 σ16 =>
bindO False (vPick v13 (.bool true) (y15 33).pv) fun v19 =>
guardG False v19 false (fun J20 =>
bindO False (vPart false 1 z0.2 2) fun v23 =>
bindO False (vLen .sl v23 σ16) fun v24 =>
bindO False (vBin none .gtr v24 (.int .i64 0)) fun v25 =>
J20 (lookE [(36, (.loc 5 2)), (37, (.v v23)), (38, (.v v24)), (39, (.v v25))]) σ16) σ16 (fun y21 σ22 =>
bindO False (vPick v19 (.bool true) (y21 39).pv) fun v26 =>
guardG False v26 false (fun J27 =>
bindO False (vPart false 1 z0.2 3) fun v30 =>
bindO False (vLen .sl v30 σ22) fun v31 =>
bindO False (vBin none .gtr v31 (.int .i64 0)) fun v32 =>
J27 (lookE [(42, (.loc 5 3)), (43, (.v v30)), (44, (.v v31)), (45, (.v v32))]) σ22) σ22 (fun y28 σ29 =>
bindO False (vPick v26 (.bool true) (y28 45).pv) fun v33 =>
condW v33 (
weakW σ (.int .i64 13) σ29 fun v σ => R (.ret v) σ) (
bindO False (vNil a0) fun v34 =>
bindO False (vField 2 v34) fun v35 =>
bindO False (vLoad false 1 v35 σ29) fun v36 =>
bindO False (vBuildSl 1 (List.replicate 1 (.str [])) [(0, a1)]) fun v37 =>
bindS (vAppend 1 16 v36 (.list .full v37) σ29) fun v38 σ39 =>
bindO False (vNil a0) fun v40 =>
bindO False (vField 2 v40) fun v41 =>
bindO False (vStore 1 v41 v38 σ39) fun σ42 =>
weakW σ (.int .i64 0) σ42 fun v σ => R (.ret v) σ))))) (fun e43 σ44 => R (.pan e43) σ44)) (
bindO False (vPart false 1 z0.2 0) fun v45 =>
bindO False (vBin none .lss v45 (.int .i64 0)) fun v46 =>
guardG False v46 false (fun J47 =>
bindO False (vPart false 1 z0.2 0) fun v50 =>
bindO False (vNil a0) fun v51 =>
bindO False (vField 0 v51) fun v52 =>
bindO False (vField 1 v52) fun v53 =>
bindO False (vLoad false 1 v53 σ7) fun v54 =>
bindO False (vLen .sl v54 σ7) fun v55 =>
bindO False (vBin none .geq v50 v55) fun v56 =>
J47 (lookE [(61, (.loc 5 0)), (62, (.v v50)), (63, (.v a0)), (64, (.v v51)), (65, (.v v52)), (66, (.v v53)), (67, (.v v54)), (68, (.v v55)), (69, (.v v56))]) σ7) σ7 (fun y48 σ49 =>
bindO False (vPick v46 (.bool true) (y48 69).pv) fun v57 =>
condW v57 (
weakW σ (.int .i64 11) σ49 fun v σ => R (.ret v) σ) (
bindO False (vNil a0) fun v58 =>
bindO False (vField 0 v58) fun v59 =>
bindO False (vField 1 v59) fun v60 =>
bindO False (vLoad false 1 v60 σ49) fun v61 =>
bindO False (vPart false 1 z0.2 0) fun v62 =>
bindO False (vIndex 2 v61 v62) fun v63 =>
bindO False (vLoad true 2 v63 σ49) fun v64 =>
bindO False (vPut 2 (.agg [(.list .nil []), (.list .nil [])]) 0 v64) fun z65 =>
bindO False (vPart true 2 z65 0) fun v66 =>
bindO False (vPart false 1 z0.2 2) fun v67 =>
callB W 161 [a0, v66, v67] σ49 (fun v68 σ69 =>
bindO False (vBin none .neq v68 (.int .i64 0)) fun v70 =>
condW v70 (
weakW σ v68 σ69 fun v σ => R (.ret v) σ) (
bindO False (vPart false 1 z65 0) fun v71 =>
bindO False (vPart false 1 z0.2 2) fun v72 =>
callB W 30 [v71, v72] σ69 (fun v73 σ74 =>
bindO False (vExtract v73 0) fun v75 =>
bindO False (vExtract v73 1) fun v76 =>
bindO False (vBin none .neq v75 a1) fun v77 =>
condW v77 (
weakW σ (.int .i64 2) σ74 fun v σ => R (.ret v) σ) (
bindO False (vPart false 1 z0.2 3) fun v78 =>
bindO False (vLen .sl v78 σ74) fun v79 =>
bindO False (vPart false 1 z65 1) fun v80 =>
bindO False (vLen .sl v80 σ74) fun v81 =>
bindO False (vBin none .neq v79 v81) fun v82 =>
condW v82 (
weakW σ (.int .i64 12) σ74 fun v σ => R (.ret v) σ) (
bindO False (vPart false 1 z65 1) fun v83 =>
bindO False (vLen .sl v83 σ74) fun v84 =>
Lfp σ (fun Φ85 x86 σ87 =>
bindO False (vBin none .lss (x86 109) (x86 108)) fun v88 =>
condW v88 (
bindO False (vIndex 1 (x86 107) (x86 109)) fun v89 =>
bindO False (vLoad false 1 v89 σ87) fun v90 =>
bindO False (vPart false 1 (x86 5) 2) fun v91 =>
callB W 30 [v90, v91] σ87 (fun v92 σ93 =>
bindO False (vExtract v92 0) fun v94 =>
bindO False (vExtract v92 1) fun v95 =>
bindO False (vPart false 1 (x86 5) 3) fun v96 =>
bindO False (vIndex 4 v96 (x86 109)) fun v97 =>
bindO False (vLoad true 4 v97 σ93) fun v98 =>
callB W 117 [(x86 0), v94, v98] σ93 (fun v99 σ100 =>
bindO False (vBin none .neq v99 (.int .i64 0)) fun v101 =>
condW v101 (
weakW σ v99 σ100 fun v σ => R (.ret v) σ) (
bindO False (vBin none .add (x86 109) (.int .i64 1)) fun v102 =>
Φ85 (lookP [(0, (x86 0)), (107, (x86 107)), (108, (x86 108)), (109, v102), (5, (x86 5))]) σ100)) (fun e103 σ104 => R (.pan e103) σ104)) (fun e105 σ106 => R (.pan e105) σ106)) (
weakW σ (.int .i64 0) σ87 fun v σ => R (.ret v) σ)) (lookP [(0, a0), (107, v83), (108, v84), (109, (.int .i64 0)), (5, z0.2)]) σ74))) (fun e107 σ108 => R (.pan e107) σ108))) (fun e109 σ110 => R (.pan e109) σ110)))))) (fun e111 σ112 => R (.pan e111) σ112))

theorem fn117_eq (W : CallP) (a0 a1 a2 : PV) (σ : St) (R : Res → St → Prop) : bodyC (algP W) Tryz.prog annF 117 [a0, a1, a2] σ R = fn117 Tryz.prog W a0 a1 a2 σ R := by kernel_rfl

/-- environ/hyper.isSymbol -/
def fn160 (Pr : Program) (W : CallP) (a0 : PV) (σ : St) (R : Res → St → Prop) : Prop :=
bindO False (vBin none .eql a0 (.str [115, 121, 109, 98, 111, 108])) fun v0 =>
guardG False v0 false (fun J1 =>
callB W 183 [a0, (.str [32, 115, 121, 109, 98, 111, 108])] σ (fun v4 σ5 =>
J1 (lookE [(6, (.v a0)), (7, (.v v4))]) σ5) (fun e6 σ7 => R (.pan e6) σ7)) σ (fun y2 σ3 =>
bindO False (vPick v0 (.bool true) (y2 7).pv) fun v8 =>
weakW σ v8 σ3 fun v σ => R (.ret v) σ)

theorem fn160_eq (W : CallP) (a0 : PV) (σ : St) (R : Res → St → Prop) : bodyC (algP W) Tryz.prog annF 160 [a0] σ R = fn160 Tryz.prog W a0 σ R := by kernel_rfl

/-- strings.HasSuffix -/
def fn183 (Pr : Program) (W : CallP) (a0 a1 : PV) (σ : St) (R : Res → St → Prop) : Prop :=
callB W 206 [a0, a1] σ (fun v0 σ1 =>
weakW σ v0 σ1 fun v σ => R (.ret v) σ) (fun e2 σ3 => R (.pan e2) σ3)

theorem fn183_eq (W : CallP) (a0 a1 : PV) (σ : St) (R : Res → St → Prop) : bodyC (algP W) Tryz.prog annF 183 [a0, a1] σ R = fn183 Tryz.prog W a0 a1 σ R := by kernel_rfl

/-- internal/stringslite.HasSuffix -/
def fn206 (Pr : Program) (W : CallP) (a0 a1 : PV) (σ : St) (R : Res → St → Prop) : Prop :=
bindO False (vLen .str a0 σ) fun v0 =>
bindO False (vLen .str a1 σ) fun v1 =>
bindO False (vBin none .geq v0 v1) fun v2 =>
guardG False v2 true (fun J3 =>
bindO False (vLen .str a0 σ) fun v6 =>
bindO False (vLen .str a1 σ) fun v7 =>
bindO False (vBin none .sub v6 v7) fun v8 =>
bindO False (vSubStr a0 (some v8) none) fun v9 =>
bindO False (vBin none .eql v9 a1) fun v10 =>
J3 (lookE [(11, (.v a0)), (12, (.v a0)), (13, (.v v6)), (14, (.v a1)), (15, (.v v7)), (16, (.v v8)), (17, (.v v9)), (18, (.v a1)), (19, (.v v10))]) σ) σ (fun y4 σ5 =>
bindO False (vPick v2 (y4 19).pv (.bool false)) fun v11 =>
weakW σ v11 σ5 fun v σ => R (.ret v) σ)

theorem fn206_eq (W : CallP) (a0 a1 : PV) (σ : St) (R : Res → St → Prop) : bodyC (algP W) Tryz.prog annF 206 [a0, a1] σ R = fn206 Tryz.prog W a0 a1 σ R := by kernel_rfl

/-- (*environ/hyper.kernel).bindings -/
def fn161 (Pr : Program) (W : CallP) (a0 a1 a2 : PV) (σ : St) (R : Res → St → Prop) : Prop :=
bindO False (opC.vBoxAny a1) fun z0 =>
bindO False (vPart true 2 z0.2 0) fun v1 =>
callB W 184 [v1] σ (fun v2 σ3 =>
callB W 185 [v2, a2, (.func 186 [])] σ3 (fun v4 σ5 =>
bindO False (vUn .not v4) fun v6 =>
condW v6 (
weakW σ (.int .i64 8) σ5 fun v σ => R (.ret v) σ) (
bindO False (vLen .sl a2 σ5) fun v7 =>
Lfp σ (fun Φ8 x9 σ10 =>
bindO False (vBin none .lss (x9 20) (x9 19)) fun v11 =>
condW v11 (
bindO False (vIndex 2 (x9 18) (x9 20)) fun v12 =>
bindO False (vLoad true 2 v12 σ10) fun v13 =>
bindO False (vPut 2 (.agg [(.str []), (.str [])]) 0 v13) fun z14 =>
bindO False (vNil (x9 0)) fun v15 =>
bindO False (vField 0 v15) fun v16 =>
bindO False (vLoad true 2 v16 σ10) fun v17 =>
bindO False (vPart false 1 z14 0) fun v18 =>
bindO False (vPart false 1 z14 1) fun v19 =>
callC W 64 [v18] σ10 fun v20 _ =>
callB W 18 [v17, v20, v19] σ10 (fun v21 σ22 =>
bindO False (vExtract v21 0) fun v23 =>
bindO False (vExtract v21 1) fun v24 =>
bindO False (vBin none .neq v24 (.int .i64 0)) fun v25 =>
guardG False v25 false (fun J26 =>
bindO False (vUn .not v23) fun v29 =>
J26 (lookE [(40, (.v v23)), (41, (.v v29))]) σ22) σ22 (fun y27 σ28 =>
bindO False (vPick v25 (.bool true) (y27 41).pv) fun v30 =>
condW v30 (
weakW σ (.int .i64 7) σ28 fun v σ => R (.ret v) σ) (
bindO False (vBin none .add (x9 20) (.int .i64 1)) fun v31 =>
Φ8 (lookP [(0, (x9 0)), (18, (x9 18)), (19, (x9 19)), (20, v31)]) σ28))) (fun e32 σ33 => R (.pan e32) σ33)) (
weakW σ (.int .i64 0) σ10 fun v σ => R (.ret v) σ)) (lookP [(0, a0), (18, a2), (19, v7), (20, (.int .i64 0))]) σ5)) (fun e34 σ35 => R (.pan e34) σ35)) (fun e36 σ37 => R (.pan e36) σ37)

theorem fn161_eq (W : CallP) (a0 a1 a2 : PV) (σ : St) (R : Res → St → Prop) : bodyC (algP W) Tryz.prog annF 161 [a0, a1, a2] σ R = fn161 Tryz.prog W a0 a1 a2 σ R := by kernel_rfl

/-- (environ/hyper.Rule).parameters -/
def fn184 (Pr : Program) (W : CallP) (a0 : PV) (σ : St) (R : Res → St → Prop) : Prop :=
bindO False (opC.vBoxAny a0) fun z0 =>
bindO False (vPart true 2 z0.2 0) fun v1 =>
callB W 60 [v1] σ (fun v2 σ3 =>
bindO False (vLen .sl v2 σ3) fun v4 =>
Lfp σ (fun Φ5 x6 σ7 =>
bindO False (vBin none .lss (x6 11) (x6 10)) fun v8 =>
condW v8 (
bindO False (vIndex 1 (x6 9) (x6 11)) fun v9 =>
bindO False (vLoad false 1 v9 σ7) fun v10 =>
bindO False (vLen .sl v10 σ7) fun v11 =>
Lfp σ (fun Φ12 x13 σ14 =>
bindO False (vBin none .lss (x13 17) (x13 16)) fun v15 =>
condW v15 (
bindO False (vIndex 2 (x13 15) (x13 17)) fun v16 =>
bindO False (vLoad true 2 v16 σ14) fun v17 =>
bindO False (vPut 2 (.agg [(.bool false), (.str [])]) 0 v17) fun z18 =>
bindO False (vPart false 1 z18 0) fun v19 =>
condW v19 (
bindO False (vPart false 1 z18 1) fun v20 =>
bindO False (vBuildSl 1 (List.replicate 1 (.str [])) [(0, v20)]) fun v21 =>
bindS (vAppend 1 16 (x13 3) (.list .full v21) σ14) fun v22 σ23 =>
bindO False (vBin none .add (x13 17) (.int .i64 1)) fun v24 =>
Φ12 (lookP [(3, v22), (9, (x13 9)), (10, (x13 10)), (11, (x13 11)), (15, (x13 15)), (16, (x13 16)), (17, v24)]) σ23) (
bindO False (vBin none .add (x13 17) (.int .i64 1)) fun v25 =>
Φ12 (lookP [(3, (x13 3)), (9, (x13 9)), (10, (x13 10)), (11, (x13 11)), (15, (x13 15)), (16, (x13 16)), (17, v25)]) σ14)) (
bindO False (vBin none .add (x13 11) (.int .i64 1)) fun v26 =>
Φ5 (lookP [(3, (x13 3)), (9, (x13 9)), (10, (x13 10)), (11, v26)]) σ14)) (lookP [(3, (x6 3)), (9, (x6 9)), (10, (x6 10)), (11, (x6 11)), (15, v10), (16, v11), (17, (.int .i64 0))]) σ7) (
callB W 207 [(x6 3)] σ7 (fun v27 σ28 =>
callB W 208 [(x6 3)] σ28 (fun v29 σ30 =>
weakW σ v29 σ30 fun v σ => R (.ret v) σ) (fun e31 σ32 => R (.pan e31) σ32)) (fun e33 σ34 => R (.pan e33) σ34))) (lookP [(3, (.list .nil [])), (9, v2), (10, v4), (11, (.int .i64 0))]) σ3) (fun e35 σ36 => R (.pan e35) σ36)

theorem fn184_eq (W : CallP) (a0 : PV) (σ : St) (R : Res → St → Prop) : bodyC (algP W) Tryz.prog annF 184 [a0] σ R = fn184 Tryz.prog W a0 σ R := by kernel_rfl

/-- slices.EqualFunc[[]string,[]environ/hyper.Bind,string,environ/hyper.Bind] -/
def fn185 (Pr : Program) (W : CallP) (a0 a1 a2 : PV) (σ : St) (R : Res → St → Prop) : Prop :=
bindO False (vLen .sl a0 σ) fun v0 =>
bindO False (vLen .sl a1 σ) fun v1 =>
bindO False (vBin none .neq v0 v1) fun v2 =>
condW v2 (
weakW σ (.bool false) σ fun v σ => R (.ret v) σ) (
bindO False (vLen .sl a0 σ) fun v3 =>
Lfp σ (fun Φ4 x5 σ6 =>
bindO False (vBin none .lss (x5 17) (x5 16)) fun v7 =>
condW v7 (
bindO False (vIndex 1 (x5 15) (x5 17)) fun v8 =>
bindO False (vLoad false 1 v8 σ6) fun v9 =>
bindO False (vIndex 2 (x5 1) (x5 17)) fun v10 =>
bindO False (vLoad true 2 v10 σ6) fun v11 =>
bindO False (vPut 2 (.agg [(.str []), (.str [])]) 0 v11) fun z12 =>
bindO False (vPart true 2 z12 0) fun v13 =>
callG (algP W) Pr false (x5 2) [v9, v13] σ6 (fun v14 σ15 =>
bindO False (vUn .not v14) fun v16 =>
condW v16 (
weakW σ (.bool false) σ15 fun v σ => R (.ret v) σ) (
bindO False (vBin none .add (x5 17) (.int .i64 1)) fun v17 =>
Φ4 (lookP [(1, (x5 1)), (2, (x5 2)), (15, (x5 15)), (16, (x5 16)), (17, v17)]) σ15)) (fun e18 σ19 => R (.pan e18) σ19)) (
weakW σ (.bool true) σ6 fun v σ => R (.ret v) σ)) (lookP [(1, a1), (2, a2), (15, a0), (16, v3), (17, (.int .i64 0))]) σ)

theorem fn185_eq (W : CallP) (a0 a1 a2 : PV) (σ : St) (R : Res → St → Prop) : bodyC (algP W) Tryz.prog annF 185 [a0, a1, a2] σ R = fn185 Tryz.prog W a0 a1 a2 σ R := by kernel_rfl

/-- (*environ/hyper.kernel).bindings$1 -/
def fn186 (Pr : Program) (W : CallP) (a0 a1 : PV) (σ : St) (R : Res → St → Prop) : Prop :=
bindO False (opC.vBoxAny a1) fun z0 =>
bindO False (vPart false 1 z0.2 0) fun v1 =>
bindO False (vBin none .eql a0 v1) fun v2 =>
weakW σ v2 σ fun v σ => R (.ret v) σ

theorem fn186_eq (W : CallP) (a0 a1 : PV) (σ : St) (R : Res → St → Prop) : bodyC (algP W) Tryz.prog annF 186 [a0, a1] σ R = fn186 Tryz.prog W a0 a1 σ R := by kernel_rfl

end Go.Proofs.YtiniifbmeobmgaaGreatDoor
