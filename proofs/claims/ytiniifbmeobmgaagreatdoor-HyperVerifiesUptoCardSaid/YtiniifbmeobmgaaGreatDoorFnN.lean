/- The bodies of some functions, as the abstract machine reads them (printed by wip/tools/Pr.lean), each held against the program's form by the kernel. -/
import Derived.Test.YtiniifbmeobmgaaGreatDoorAnn
import Derived.Test.YtiniifbmeobmgaaGreatDoorProg
import Derived.KernelRfl
set_option linter.unusedVariables false
namespace Go.Proofs.YtiniifbmeobmgaaGreatDoor
open Go Go.Abs

/-- environ/hyper.Verify -/
def fn41 (Pr : Program) (W : CallP) (a0 a1 a2 : PV) (σ : St) (R : Res → St → Prop) : Prop :=
bindO False (opC.vBoxAny a0) fun z0 =>
bindO False (opC.vBoxAny a2) fun z1 =>
bindO False (vPart true 2 z0.2 0) fun v2 =>
callB W 15 [v2] σ (fun v3 σ4 =>
bindO False (vBin none .neq v3 (.int .i64 0)) fun v5 =>
condW v5 (
weakW σ (.tuple [(.list .nil []), v3]) σ4 fun v σ => R (.ret v) σ) (
bindO False (vPart true 4 z1.2 0) fun v6 =>
callB W 45 [v6] σ4 (fun v7 σ8 =>
bindO False (vBin none .gtr v7 (.int .i64 100000)) fun v9 =>
condW v9 (
weakW σ (.tuple [(.list .nil []), (.int .i64 3)]) σ8 fun v σ => R (.ret v) σ) (
callB W 71 [a1] σ8 (fun v10 σ11 =>
bindO False (vExtract v10 0) fun v12 =>
bindO False (vExtract v10 1) fun v13 =>
bindO False (vUn .not v13) fun v14 =>
condW v14 (
weakW σ (.tuple [(.list .nil []), (.int .i64 14)]) σ11 fun v σ => R (.ret v) σ) (
bindO False (vPart true 2 z0.2 0) fun v15 =>
bindO False (vBuild [(.list .nil []), (.list .nil []), (.list .nil [])] [(0, 2, v15)]) fun v16 =>
bindO False (opC.vBoxAny (.agg v16)) fun z17 =>
if 0 < z17.1 then newW z17.1 z17.2 σ11 fun p18 σ19 =>
bindO False (vPart true 4 z1.2 0) fun v20 =>
callB W 117 [p18, a1, v20] σ19 (fun v21 σ22 =>
bindO False (vBin none .neq v21 (.int .i64 0)) fun v23 =>
condW v23 (
weakW σ (.tuple [(.list .nil []), v21]) σ22 fun v σ => R (.ret v) σ) (
bindO False (vNil p18) fun v24 =>
bindO False (vField 2 v24) fun v25 =>
bindO False (vLoad false 1 v25 σ22) fun v26 =>
weakW σ (.tuple [v26, (.int .i64 0)]) σ22 fun v σ => R (.ret v) σ)) (fun e27 σ28 => R (.pan e27) σ28) else False)) (fun e29 σ30 => R (.pan e29) σ30))) (fun e31 σ32 => R (.pan e31) σ32))) (fun e33 σ34 => R (.pan e33) σ34)

theorem fn41_eq (W : CallP) (a0 a1 a2 : PV) (σ : St) (R : Res → St → Prop) : bodyC (algP W) Tryz.prog annF 41 [a0, a1, a2] σ R = fn41 Tryz.prog W a0 a1 a2 σ R := by kernel_rfl

/-- (*environ/hyper.kernel).verify -/
def fn117 (Pr : Program) (W : CallP) (a0 a1 a2 : PV) (σ : St) (R : Res → St → Prop) : Prop :=
bindO False (opC.vBoxAny a2) fun z0 =>
bindO False (vPart false 1 z0.2 1) fun v1 =>
bindO False (vBin none .neq v1 a1) fun v2 =>
condW v2 (
weakW σ (.int .i64 14) σ fun v σ => R (.ret v) σ) (
callB W 160 [a1] σ (fun v3 σ4 =>
guardG False v3 false (fun J5 =>
bindO False (vPart false 1 z0.2 0) fun v8 =>
bindO False (vBin none .eql v8 (.int .i64 (-1))) fun v9 =>
J5 (lookE [(23, (.loc 5 0)), (24, (.v v8)), (25, (.v v9))]) σ4) σ4 (fun y6 σ7 =>
bindO False (vPick v3 (.bool true) (y6 25).pv) fun v10 =>
condW v10 (
callB W 160 [a1] σ7 (fun v11 σ12 =>
bindO False (vUn .not v11) fun v13 =>
guardG False v13 false (fun J14 =>
bindO False (vPart false 1 z0.2 0) fun v17 =>
bindO False (vBin none .neq v17 (.int .i64 (-1))) fun v18 =>
J14 (lookE [(31, (.loc 5 0)), (32, (.v v17)), (33, (.v v18))]) σ12) σ12 (fun y15 σ16 =>
bindO False (vPick v13 (.bool true) (y15 33).pv) fun v19 =>
guardG False v19 false (fun J20 =>
bindO False (vPart false 1 z0.2 2) fun v23 =>
bindO False (vLen .sl v23 σ16) fun v24 =>
bindO False (vBin none .gtr v24 (.int .i64 0)) fun v25 =>
J20 (lookE [(36, (.loc 5 2)), (37, (.v v23)), (38, (.v v24)), (39, (.v v25))]) σ16) σ16 (fun y21 σ22 =>
bindO False (vPick v19 (.bool true) (y21 39).pv) fun v26 =>
guardG False v26 false (fun J27 =>
bindO False (vPart false 1 z0.2 3) fun v30 =>
bindO False (vLen .sl v30 σ22) fun v31 =>
bindO False (vBin none .gtr v31 (.int .i64 0)) fun v32 =>
J27 (lookE [(42, (.loc 5 3)), (43, (.v v30)), (44, (.v v31)), (45, (.v v32))]) σ22) σ22 (fun y28 σ29 =>
bindO False (vPick v26 (.bool true) (y28 45).pv) fun v33 =>
condW v33 (
weakW σ (.int .i64 13) σ29 fun v σ => R (.ret v) σ) (
bindO False (vNil a0) fun v34 =>
bindO False (vField 2 v34) fun v35 =>
bindO False (vLoad false 1 v35 σ29) fun v36 =>
bindO False (vBuildSl 1 (List.replicate 1 (.str [])) [(0, a1)]) fun v37 =>
bindS (vAppend 1 16 v36 (.list .full v37) σ29) fun v38 σ39 =>
bindO False (vNil a0) fun v40 =>
bindO False (vField 2 v40) fun v41 =>
bindO False (vStore 1 v41 v38 σ39) fun σ42 =>
weakW σ (.int .i64 0) σ42 fun v σ => R (.ret v) σ))))) (fun e43 σ44 => R (.pan e43) σ44)) (
bindO False (vPart false 1 z0.2 0) fun v45 =>
bindO False (vBin none .lss v45 (.int .i64 0)) fun v46 =>
guardG False v46 false (fun J47 =>
bindO False (vPart false 1 z0.2 0) fun v50 =>
bindO False (vNil a0) fun v51 =>
bindO False (vField 0 v51) fun v52 =>
bindO False (vField 1 v52) fun v53 =>
bindO False (vLoad false 1 v53 σ7) fun v54 =>
bindO False (vLen .sl v54 σ7) fun v55 =>
bindO False (vBin none .geq v50 v55) fun v56 =>
J47 (lookE [(61, (.loc 5 0)), (62, (.v v50)), (63, (.v a0)), (64, (.v v51)), (65, (.v v52)), (66, (.v v53)), (67, (.v v54)), (68, (.v v55)), (69, (.v v56))]) σ7) σ7 (fun y48 σ49 =>
bindO False (vPick v46 (.bool true) (y48 69).pv) fun v57 =>
condW v57 (
weakW σ (.int .i64 11) σ49 fun v σ => R (.ret v) σ) (
bindO False (vNil a0) fun v58 =>
bindO False (vField 0 v58) fun v59 =>
bindO False (vField 1 v59) fun v60 =>
bindO False (vLoad false 1 v60 σ49) fun v61 =>
bindO False (vPart false 1 z0.2 0) fun v62 =>
bindO False (vIndex 2 v61 v62) fun v63 =>
bindO False (vLoad true 2 v63 σ49) fun v64 =>
bindO False (vPut 2 (.agg [(.list .nil []), (.list .nil [])]) 0 v64) fun z65 =>
bindO False (vPart true 2 z65 0) fun v66 =>
bindO False (vPart false 1 z0.2 2) fun v67 =>
callB W 161 [a0, v66, v67] σ49 (fun v68 σ69 =>
bindO False (vBin none .neq v68 (.int .i64 0)) fun v70 =>
condW v70 (
weakW σ v68 σ69 fun v σ => R (.ret v) σ) (
bindO False (vPart false 1 z65 0) fun v71 =>
bindO False (vPart false 1 z0.2 2) fun v72 =>
callB W 30 [v71, v72] σ69 (fun v73 σ74 =>
bindO False (vExtract v73 0) fun v75 =>
bindO False (vExtract v73 1) fun v76 =>
bindO False (vBin none .neq v75 a1) fun v77 =>
condW v77 (
weakW σ (.int .i64 2) σ74 fun v σ => R (.ret v) σ) (
bindO False (vPart false 1 z0.2 3) fun v78 =>
bindO False (vLen .sl v78 σ74) fun v79 =>
bindO False (vPart false 1 z65 1) fun v80 =>
bindO False (vLen .sl v80 σ74) fun v81 =>
bindO False (vBin none .neq v79 v81) fun v82 =>
condW v82 (
weakW σ (.int .i64 12) σ74 fun v σ => R (.ret v) σ) (
bindO False (vPart false 1 z65 1) fun v83 =>
bindO False (vLen .sl v83 σ74) fun v84 =>
Lfp σ (fun Φ85 x86 σ87 =>
bindO False (vBin none .lss (x86 109) (x86 108)) fun v88 =>
condW v88 (
bindO False (vIndex 1 (x86 107) (x86 109)) fun v89 =>
bindO False (vLoad false 1 v89 σ87) fun v90 =>
bindO False (vPart false 1 (x86 5) 2) fun v91 =>
callB W 30 [v90, v91] σ87 (fun v92 σ93 =>
bindO False (vExtract v92 0) fun v94 =>
bindO False (vExtract v92 1) fun v95 =>
bindO False (vPart false 1 (x86 5) 3) fun v96 =>
bindO False (vIndex 4 v96 (x86 109)) fun v97 =>
bindO False (vLoad true 4 v97 σ93) fun v98 =>
callB W 117 [(x86 0), v94, v98] σ93 (fun v99 σ100 =>
bindO False (vBin none .neq v99 (.int .i64 0)) fun v101 =>
condW v101 (
weakW σ v99 σ100 fun v σ => R (.ret v) σ) (
bindO False (vBin none .add (x86 109) (.int .i64 1)) fun v102 =>
Φ85 (lookP [(0, (x86 0)), (107, (x86 107)), (108, (x86 108)), (109, v102), (5, (x86 5))]) σ100)) (fun e103 σ104 => R (.pan e103) σ104)) (fun e105 σ106 => R (.pan e105) σ106)) (
weakW σ (.int .i64 0) σ87 fun v σ => R (.ret v) σ)) (lookP [(0, a0), (107, v83), (108, v84), (109, (.int .i64 0)), (5, z0.2)]) σ74))) (fun e107 σ108 => R (.pan e107) σ108))) (fun e109 σ110 => R (.pan e109) σ110)))))) (fun e111 σ112 => R (.pan e111) σ112))

theorem fn117_eq (W : CallP) (a0 a1 a2 : PV) (σ : St) (R : Res → St → Prop) : bodyC (algP W) Tryz.prog annF 117 [a0, a1, a2] σ R = fn117 Tryz.prog W a0 a1 a2 σ R := by kernel_rfl

/-- environ/hyper.isSymbol -/
def fn160 (Pr : Program) (W : CallP) (a0 : PV) (σ : St) (R : Res → St → Prop) : Prop :=
bindO False (vBin none .eql a0 (.str [115, 121, 109, 98, 111, 108])) fun v0 =>
guardG False v0 false (fun J1 =>
callB W 183 [a0, (.str [32, 115, 121, 109, 98, 111, 108])] σ (fun v4 σ5 =>
J1 (lookE [(6, (.v a0)), (7, (.v v4))]) σ5) (fun e6 σ7 => R (.pan e6) σ7)) σ (fun y2 σ3 =>
bindO False (vPick v0 (.bool true) (y2 7).pv) fun v8 =>
weakW σ v8 σ3 fun v σ => R (.ret v) σ)

theorem fn160_eq (W : CallP) (a0 : PV) (σ : St) (R : Res → St → Prop) : bodyC (algP W) Tryz.prog annF 160 [a0] σ R = fn160 Tryz.prog W a0 σ R := by kernel_rfl

/-- strings.HasSuffix -/
def fn183 (Pr : Program) (W : CallP) (a0 a1 : PV) (σ : St) (R : Res → St → Prop) : Prop :=
callB W 206 [a0, a1] σ (fun v0 σ1 =>
weakW σ v0 σ1 fun v σ => R (.ret v) σ) (fun e2 σ3 => R (.pan e2) σ3)

theorem fn183_eq (W : CallP) (a0 a1 : PV) (σ : St) (R : Res → St → Prop) : bodyC (algP W) Tryz.prog annF 183 [a0, a1] σ R = fn183 Tryz.prog W a0 a1 σ R := by kernel_rfl

/-- internal/stringslite.HasSuffix -/
def fn206 (Pr : Program) (W : CallP) (a0 a1 : PV) (σ : St) (R : Res → St → Prop) : Prop :=
bindO False (vLen .str a0 σ) fun v0 =>
bindO False (vLen .str a1 σ) fun v1 =>
bindO False (vBin none .geq v0 v1) fun v2 =>
guardG False v2 true (fun J3 =>
bindO False (vLen .str a0 σ) fun v6 =>
bindO False (vLen .str a1 σ) fun v7 =>
bindO False (vBin none .sub v6 v7) fun v8 =>
bindO False (vSubStr a0 (some v8) none) fun v9 =>
bindO False (vBin none .eql v9 a1) fun v10 =>
J3 (lookE [(11, (.v a0)), (12, (.v a0)), (13, (.v v6)), (14, (.v a1)), (15, (.v v7)), (16, (.v v8)), (17, (.v v9)), (18, (.v a1)), (19, (.v v10))]) σ) σ (fun y4 σ5 =>
bindO False (vPick v2 (y4 19).pv (.bool false)) fun v11 =>
weakW σ v11 σ5 fun v σ => R (.ret v) σ)

theorem fn206_eq (W : CallP) (a0 a1 : PV) (σ : St) (R : Res → St → Prop) : bodyC (algP W) Tryz.prog annF 206 [a0, a1] σ R = fn206 Tryz.prog W a0 a1 σ R := by kernel_rfl

/-- (*environ/hyper.kernel).bindings -/
def fn161 (Pr : Program) (W : CallP) (a0 a1 a2 : PV) (σ : St) (R : Res → St → Prop) : Prop :=
bindO False (opC.vBoxAny a1) fun z0 =>
bindO False (vPart true 2 z0.2 0) fun v1 =>
callB W 184 [v1] σ (fun v2 σ3 =>
callB W 185 [v2, a2, (.func 186 [])] σ3 (fun v4 σ5 =>
bindO False (vUn .not v4) fun v6 =>
condW v6 (
weakW σ (.int .i64 8) σ5 fun v σ => R (.ret v) σ) (
bindO False (vLen .sl a2 σ5) fun v7 =>
Lfp σ (fun Φ8 x9 σ10 =>
bindO False (vBin none .lss (x9 20) (x9 19)) fun v11 =>
condW v11 (
bindO False (vIndex 2 (x9 18) (x9 20)) fun v12 =>
bindO False (vLoad true 2 v12 σ10) fun v13 =>
bindO False (vPut 2 (.agg [(.str []), (.str [])]) 0 v13) fun z14 =>
bindO False (vNil (x9 0)) fun v15 =>
bindO False (vField 0 v15) fun v16 =>
bindO False (vLoad true 2 v16 σ10) fun v17 =>
bindO False (vPart false 1 z14 0) fun v18 =>
bindO False (vPart false 1 z14 1) fun v19 =>
callC W 64 [v18] σ10 fun v20 _ =>
callB W 18 [v17, v20, v19] σ10 (fun v21 σ22 =>
bindO False (vExtract v21 0) fun v23 =>
bindO False (vExtract v21 1) fun v24 =>
bindO False (vBin none .neq v24 (.int .i64 0)) fun v25 =>
guardG False v25 false (fun J26 =>
bindO False (vUn .not v23) fun v29 =>
J26 (lookE [(40, (.v v23)), (41, (.v v29))]) σ22) σ22 (fun y27 σ28 =>
bindO False (vPick v25 (.bool true) (y27 41).pv) fun v30 =>
condW v30 (
weakW σ (.int .i64 7) σ28 fun v σ => R (.ret v) σ) (
bindO False (vBin none .add (x9 20) (.int .i64 1)) fun v31 =>
Φ8 (lookP [(0, (x9 0)), (18, (x9 18)), (19, (x9 19)), (20, v31)]) σ28))) (fun e32 σ33 => R (.pan e32) σ33)) (
weakW σ (.int .i64 0) σ10 fun v σ => R (.ret v) σ)) (lookP [(0, a0), (18, a2), (19, v7), (20, (.int .i64 0))]) σ5)) (fun e34 σ35 => R (.pan e34) σ35)) (fun e36 σ37 => R (.pan e36) σ37)

theorem fn161_eq (W : CallP) (a0 a1 a2 : PV) (σ : St) (R : Res → St → Prop) : bodyC (algP W) Tryz.prog annF 161 [a0, a1, a2] σ R = fn161 Tryz.prog W a0 a1 a2 σ R := by kernel_rfl

/-- (environ/hyper.Rule).parameters -/
def fn184 (Pr : Program) (W : CallP) (a0 : PV) (σ : St) (R : Res → St → Prop) : Prop :=
bindO False (opC.vBoxAny a0) fun z0 =>
bindO False (vPart true 2 z0.2 0) fun v1 =>
callB W 60 [v1] σ (fun v2 σ3 =>
bindO False (vLen .sl v2 σ3) fun v4 =>
Lfp σ (fun Φ5 x6 σ7 =>
bindO False (vBin none .lss (x6 11) (x6 10)) fun v8 =>
condW v8 (
bindO False (vIndex 1 (x6 9) (x6 11)) fun v9 =>
bindO False (vLoad false 1 v9 σ7) fun v10 =>
bindO False (vLen .sl v10 σ7) fun v11 =>
Lfp σ (fun Φ12 x13 σ14 =>
bindO False (vBin none .lss (x13 17) (x13 16)) fun v15 =>
condW v15 (
bindO False (vIndex 2 (x13 15) (x13 17)) fun v16 =>
bindO False (vLoad true 2 v16 σ14) fun v17 =>
bindO False (vPut 2 (.agg [(.bool false), (.str [])]) 0 v17) fun z18 =>
bindO False (vPart false 1 z18 0) fun v19 =>
condW v19 (
bindO False (vPart false 1 z18 1) fun v20 =>
bindO False (vBuildSl 1 (List.replicate 1 (.str [])) [(0, v20)]) fun v21 =>
bindS (vAppend 1 16 (x13 3) (.list .full v21) σ14) fun v22 σ23 =>
bindO False (vBin none .add (x13 17) (.int .i64 1)) fun v24 =>
Φ12 (lookP [(3, v22), (9, (x13 9)), (10, (x13 10)), (11, (x13 11)), (15, (x13 15)), (16, (x13 16)), (17, v24)]) σ23) (
bindO False (vBin none .add (x13 17) (.int .i64 1)) fun v25 =>
Φ12 (lookP [(3, (x13 3)), (9, (x13 9)), (10, (x13 10)), (11, (x13 11)), (15, (x13 15)), (16, (x13 16)), (17, v25)]) σ14)) (
bindO False (vBin none .add (x13 11) (.int .i64 1)) fun v26 =>
Φ5 (lookP [(3, (x13 3)), (9, (x13 9)), (10, (x13 10)), (11, v26)]) σ14)) (lookP [(3, (x6 3)), (9, (x6 9)), (10, (x6 10)), (11, (x6 11)), (15, v10), (16, v11), (17, (.int .i64 0))]) σ7) (
callB W 207 [(x6 3)] σ7 (fun v27 σ28 =>
callB W 208 [(x6 3)] σ28 (fun v29 σ30 =>
weakW σ v29 σ30 fun v σ => R (.ret v) σ) (fun e31 σ32 => R (.pan e31) σ32)) (fun e33 σ34 => R (.pan e33) σ34))) (lookP [(3, (.list .nil [])), (9, v2), (10, v4), (11, (.int .i64 0))]) σ3) (fun e35 σ36 => R (.pan e35) σ36)

theorem fn184_eq (W : CallP) (a0 : PV) (σ : St) (R : Res → St → Prop) : bodyC (algP W) Tryz.prog annF 184 [a0] σ R = fn184 Tryz.prog W a0 σ R := by kernel_rfl

/-- slices.EqualFunc[[]string,[]environ/hyper.Bind,string,environ/hyper.Bind] -/
def fn185 (Pr : Program) (W : CallP) (a0 a1 a2 : PV) (σ : St) (R : Res → St → Prop) : Prop :=
bindO False (vLen .sl a0 σ) fun v0 =>
bindO False (vLen .sl a1 σ) fun v1 =>
bindO False (vBin none .neq v0 v1) fun v2 =>
condW v2 (
weakW σ (.bool false) σ fun v σ => R (.ret v) σ) (
bindO False (vLen .sl a0 σ) fun v3 =>
Lfp σ (fun Φ4 x5 σ6 =>
bindO False (vBin none .lss (x5 17) (x5 16)) fun v7 =>
condW v7 (
bindO False (vIndex 1 (x5 15) (x5 17)) fun v8 =>
bindO False (vLoad false 1 v8 σ6) fun v9 =>
bindO False (vIndex 2 (x5 1) (x5 17)) fun v10 =>
bindO False (vLoad true 2 v10 σ6) fun v11 =>
bindO False (vPut 2 (.agg [(.str []), (.str [])]) 0 v11) fun z12 =>
bindO False (vPart true 2 z12 0) fun v13 =>
callG (algP W) Pr false (x5 2) [v9, v13] σ6 (fun v14 σ15 =>
bindO False (vUn .not v14) fun v16 =>
condW v16 (
weakW σ (.bool false) σ15 fun v σ => R (.ret v) σ) (
bindO False (vBin none .add (x5 17) (.int .i64 1)) fun v17 =>
Φ4 (lookP [(1, (x5 1)), (2, (x5 2)), (15, (x5 15)), (16, (x5 16)), (17, v17)]) σ15)) (fun e18 σ19 => R (.pan e18) σ19)) (
weakW σ (.bool true) σ6 fun v σ => R (.ret v) σ)) (lookP [(1, a1), (2, a2), (15, a0), (16, v3), (17, (.int .i64 0))]) σ)

theorem fn185_eq (W : CallP) (a0 a1 a2 : PV) (σ : St) (R : Res → St → Prop) : bodyC (algP W) Tryz.prog annF 185 [a0, a1, a2] σ R = fn185 Tryz.prog W a0 a1 a2 σ R := by kernel_rfl

/-- (*environ/hyper.kernel).bindings$1 -/
def fn186 (Pr : Program) (W : CallP) (a0 a1 : PV) (σ : St) (R : Res → St → Prop) : Prop :=
bindO False (opC.vBoxAny a1) fun z0 =>
bindO False (vPart false 1 z0.2 0) fun v1 =>
bindO False (vBin none .eql a0 v1) fun v2 =>
weakW σ v2 σ fun v σ => R (.ret v) σ

theorem fn186_eq (W : CallP) (a0 a1 : PV) (σ : St) (R : Res → St → Prop) : bodyC (algP W) Tryz.prog annF 186 [a0, a1] σ R = fn186 Tryz.prog W a0 a1 σ R := by kernel_rfl

/-- environ/environref19.Verify -/
def fn42 (Pr : Program) (W : CallP) (a0 a1 a2 : PV) (σ : St) (R : Res → St → Prop) : Prop :=
bindO False (opC.vBoxAny a0) fun z0 =>
bindO False (opC.vBoxAny a2) fun z1 =>
bindO False (vPart true 2 z0.2 0) fun v2 =>
callB W 16 [v2] σ (fun v3 σ4 =>
bindO False (vBin none .neq v3 (.int .i64 0)) fun v5 =>
condW v5 (
weakW σ (.tuple [(.list .nil []), v3]) σ4 fun v σ => R (.ret v) σ) (
bindO False (vPart true 4 z1.2 0) fun v6 =>
callB W 46 [v6] σ4 (fun v7 σ8 =>
bindO False (vBin none .gtr v7 (.int .i64 100000)) fun v9 =>
condW v9 (
weakW σ (.tuple [(.list .nil []), (.int .i64 3)]) σ8 fun v σ => R (.ret v) σ) (
bindO False (vPart true 2 z0.2 0) fun v10 =>
bindO False (vBuild [(.list .nil []), (.list .nil []), (.list .nil []), (.list .nil [])] [(0, 2, v10)]) fun v11 =>
bindO False (opC.vBoxAny (.agg v11)) fun z12 =>
if 0 < z12.1 then newW z12.1 z12.2 σ8 fun p13 σ14 =>
bindO False (vPart true 4 z1.2 0) fun v15 =>
callB W 118 [p13, a1, v15] σ14 (fun v16 σ17 =>
bindO False (vBin none .neq v16 (.int .i64 0)) fun v18 =>
condW v18 (
weakW σ (.tuple [(.list .nil []), v16]) σ17 fun v σ => R (.ret v) σ) (
bindO False (vNil p13) fun v19 =>
bindO False (vField 3 v19) fun v20 =>
bindO False (vLoad false 1 v20 σ17) fun v21 =>
weakW σ (.tuple [v21, (.int .i64 0)]) σ17 fun v σ => R (.ret v) σ)) (fun e22 σ23 => R (.pan e22) σ23) else False)) (fun e24 σ25 => R (.pan e24) σ25))) (fun e26 σ27 => R (.pan e26) σ27)

theorem fn42_eq (W : CallP) (a0 a1 a2 : PV) (σ : St) (R : Res → St → Prop) : bodyC (algP W) Tryz.prog annF 42 [a0, a1, a2] σ R = fn42 Tryz.prog W a0 a1 a2 σ R := by kernel_rfl

/-- (*environ/environref19.kernel).check -/
def fn118 (Pr : Program) (W : CallP) (a0 a1 a2 : PV) (σ : St) (R : Res → St → Prop) : Prop :=
bindO False (opC.vBoxAny a2) fun z0 =>
callB W 100 [a1] σ (fun v1 σ2 =>
bindO False (vExtract v1 0) fun v3 =>
bindO False (vExtract v1 1) fun v4 =>
bindO False (vUn .not v4) fun v5 =>
guardG False v5 false (fun J6 =>
bindO False (vPart false 1 z0.2 1) fun v9 =>
bindO False (vBin none .neq v9 a1) fun v10 =>
J6 (lookE [(27, (.loc 5 1)), (28, (.v v9)), (29, (.v a1)), (30, (.v v10))]) σ2) σ2 (fun y7 σ8 =>
bindO False (vPick v5 (.bool true) (y7 30).pv) fun v11 =>
condW v11 (
weakW σ (.int .i64 14) σ8 fun v σ => R (.ret v) σ) (
callB W 162 [a1] σ8 (fun v12 σ13 =>
guardG False v12 false (fun J14 =>
bindO False (vPart false 1 z0.2 0) fun v17 =>
bindO False (vBin none .eql v17 (.int .i64 (-1))) fun v18 =>
J14 (lookE [(35, (.loc 5 0)), (36, (.v v17)), (37, (.v v18))]) σ13) σ13 (fun y15 σ16 =>
bindO False (vPick v12 (.bool true) (y15 37).pv) fun v19 =>
condW v19 (
callB W 162 [a1] σ16 (fun v20 σ21 =>
bindO False (vUn .not v20) fun v22 =>
guardG False v22 false (fun J23 =>
bindO False (vPart false 1 z0.2 0) fun v26 =>
bindO False (vBin none .neq v26 (.int .i64 (-1))) fun v27 =>
J23 (lookE [(43, (.loc 5 0)), (44, (.v v26)), (45, (.v v27))]) σ21) σ21 (fun y24 σ25 =>
bindO False (vPick v22 (.bool true) (y24 45).pv) fun v28 =>
guardG False v28 false (fun J29 =>
bindO False (vPart false 1 z0.2 2) fun v32 =>
bindO False (vLen .sl v32 σ25) fun v33 =>
bindO False (vBin none .gtr v33 (.int .i64 0)) fun v34 =>
J29 (lookE [(48, (.loc 5 2)), (49, (.v v32)), (50, (.v v33)), (51, (.v v34))]) σ25) σ25 (fun y30 σ31 =>
bindO False (vPick v28 (.bool true) (y30 51).pv) fun v35 =>
guardG False v35 false (fun J36 =>
bindO False (vPart false 1 z0.2 3) fun v39 =>
bindO False (vLen .sl v39 σ31) fun v40 =>
bindO False (vBin none .gtr v40 (.int .i64 0)) fun v41 =>
J36 (lookE [(54, (.loc 5 3)), (55, (.v v39)), (56, (.v v40)), (57, (.v v41))]) σ31) σ31 (fun y37 σ38 =>
bindO False (vPick v35 (.bool true) (y37 57).pv) fun v42 =>
condW v42 (
weakW σ (.int .i64 13) σ38 fun v σ => R (.ret v) σ) (
bindO False (vNil a0) fun v43 =>
bindO False (vField 3 v43) fun v44 =>
bindO False (vLoad false 1 v44 σ38) fun v45 =>
bindO False (vBuildSl 1 (List.replicate 1 (.str [])) [(0, a1)]) fun v46 =>
bindS (vAppend 1 16 v45 (.list .full v46) σ38) fun v47 σ48 =>
bindO False (vNil a0) fun v49 =>
bindO False (vField 3 v49) fun v50 =>
bindO False (vStore 1 v50 v47 σ48) fun σ51 =>
weakW σ (.int .i64 0) σ51 fun v σ => R (.ret v) σ))))) (fun e52 σ53 => R (.pan e52) σ53)) (
bindO False (vPart false 1 z0.2 0) fun v54 =>
bindO False (vBin none .lss v54 (.int .i64 0)) fun v55 =>
guardG False v55 false (fun J56 =>
bindO False (vPart false 1 z0.2 0) fun v59 =>
bindO False (vNil a0) fun v60 =>
bindO False (vField 0 v60) fun v61 =>
bindO False (vField 1 v61) fun v62 =>
bindO False (vLoad false 1 v62 σ16) fun v63 =>
bindO False (vLen .sl v63 σ16) fun v64 =>
bindO False (vBin none .geq v59 v64) fun v65 =>
J56 (lookE [(73, (.loc 5 0)), (74, (.v v59)), (75, (.v a0)), (76, (.v v60)), (77, (.v v61)), (78, (.v v62)), (79, (.v v63)), (80, (.v v64)), (81, (.v v65))]) σ16) σ16 (fun y57 σ58 =>
bindO False (vPick v55 (.bool true) (y57 81).pv) fun v66 =>
condW v66 (
weakW σ (.int .i64 11) σ58 fun v σ => R (.ret v) σ) (
bindO False (vNil a0) fun v67 =>
bindO False (vField 0 v67) fun v68 =>
bindO False (vField 1 v68) fun v69 =>
bindO False (vLoad false 1 v69 σ58) fun v70 =>
bindO False (vPart false 1 z0.2 0) fun v71 =>
bindO False (vIndex 2 v70 v71) fun v72 =>
bindO False (vLoad true 2 v72 σ58) fun v73 =>
bindO False (vPut 2 (.agg [(.list .nil []), (.list .nil [])]) 0 v73) fun z74 =>
bindO False (vPart true 2 z74 0) fun v75 =>
callB W 163 [v75] σ58 (fun v76 σ77 =>
bindO False (vLen .sl v76 σ77) fun v78 =>
bindO False (vPart false 1 z0.2 2) fun v79 =>
bindO False (vLen .sl v79 σ77) fun v80 =>
bindO False (vBin none .neq v78 v80) fun v81 =>
condW v81 (
weakW σ (.int .i64 8) σ77 fun v σ => R (.ret v) σ) (
CutW σ (fun J82 =>
Lfp σ (fun Φ85 x86 σ87 =>
bindO False (vLen .sl (x86 10) σ87) fun v88 =>
bindO False (vBin none .lss (x86 11) v88) fun v89 =>
condW v89 (
bindO False (vIndex 1 (x86 10) (x86 11)) fun v90 =>
bindO False (vLoad false 1 v90 σ87) fun v91 =>
bindO False (vPart false 1 (x86 5) 2) fun v92 =>
bindO False (vIndex 2 v92 (x86 11)) fun v93 =>
bindO False (vField 0 v93) fun v94 =>
bindO False (vLoad false 1 v94 σ87) fun v95 =>
bindO False (vBin none .neq v91 v95) fun v96 =>
condW v96 (
weakW σ (.int .i64 8) σ87 fun v σ => R (.ret v) σ) (
bindO False (vBin none .add (x86 11) (.int .i64 1)) fun v97 =>
Φ85 (lookP [(0, (x86 0)), (1, (x86 1)), (10, (x86 10)), (11, v97), (5, (x86 5)), (9, (x86 9))]) σ87)) (
J82 (lookP [(0, (x86 0)), (1, (x86 1)), (10, (x86 10)), (5, (x86 5)), (9, (x86 9))]) σ87)) (lookP [(0, a0), (1, a1), (10, v76), (11, (.int .i64 0)), (5, z0.2), (9, z74)]) σ77) (fun x83 σ84 =>
CutW σ (fun J98 =>
Lfp σ (fun Φ101 x102 σ103 =>
bindO False (vLen .sl (x102 10) σ103) fun v104 =>
bindO False (vBin none .lss (x102 12) v104) fun v105 =>
condW v105 (
bindO False (vIndex 1 (x102 10) (x102 12)) fun v106 =>
bindO False (vLoad false 1 v106 σ103) fun v107 =>
bindO False (vPart false 1 (x102 5) 2) fun v108 =>
bindO False (vIndex 2 v108 (x102 12)) fun v109 =>
bindO False (vField 1 v109) fun v110 =>
bindO False (vLoad false 1 v110 σ103) fun v111 =>
callC W 129 [v107] σ103 fun v112 _ =>
callB W 164 [(x102 0), v112, v111] σ103 (fun v113 σ114 =>
bindO False (vUn .not v113) fun v115 =>
condW v115 (
weakW σ (.int .i64 7) σ114 fun v σ => R (.ret v) σ) (
bindO False (vBin none .add (x102 12) (.int .i64 1)) fun v116 =>
Φ101 (lookP [(0, (x102 0)), (1, (x102 1)), (10, (x102 10)), (12, v116), (5, (x102 5)), (9, (x102 9))]) σ114)) (fun e117 σ118 => R (.pan e117) σ118)) (
J98 (lookP [(0, (x102 0)), (1, (x102 1)), (5, (x102 5)), (9, (x102 9))]) σ103)) (lookP [(0, (x83 0)), (1, (x83 1)), (10, (x83 10)), (12, (.int .i64 0)), (5, (x83 5)), (9, (x83 9))]) σ84) (fun x99 σ100 =>
bindO False (vPart false 1 (x99 9) 0) fun v119 =>
bindO False (vPart false 1 (x99 5) 2) fun v120 =>
callB W 31 [v119, v120] σ100 (fun v121 σ122 =>
bindO False (vExtract v121 0) fun v123 =>
bindO False (vExtract v121 1) fun v124 =>
bindO False (vBin none .neq v123 (x99 1)) fun v125 =>
condW v125 (
weakW σ (.int .i64 2) σ122 fun v σ => R (.ret v) σ) (
bindO False (vPart false 1 (x99 5) 3) fun v126 =>
bindO False (vLen .sl v126 σ122) fun v127 =>
bindO False (vPart false 1 (x99 9) 1) fun v128 =>
bindO False (vLen .sl v128 σ122) fun v129 =>
bindO False (vBin none .neq v127 v129) fun v130 =>
condW v130 (
weakW σ (.int .i64 12) σ122 fun v σ => R (.ret v) σ) (
CutW σ (fun J131 =>
Lfp σ (fun Φ134 x135 σ136 =>
bindO False (vPart false 1 (x135 5) 3) fun v137 =>
bindO False (vLen .sl v137 σ136) fun v138 =>
bindO False (vBin none .lss (x135 15) v138) fun v139 =>
condW v139 (
bindO False (vPart false 1 (x135 9) 1) fun v140 =>
bindO False (vIndex 1 v140 (x135 15)) fun v141 =>
bindO False (vLoad false 1 v141 σ136) fun v142 =>
bindO False (vPart false 1 (x135 5) 2) fun v143 =>
callB W 31 [v142, v143] σ136 (fun v144 σ145 =>
bindO False (vExtract v144 0) fun v146 =>
bindO False (vExtract v144 1) fun v147 =>
bindO False (vPart false 1 (x135 5) 3) fun v148 =>
bindO False (vIndex 4 v148 (x135 15)) fun v149 =>
bindO False (vLoad true 4 v149 σ145) fun v150 =>
callB W 118 [(x135 0), v146, v150] σ145 (fun v151 σ152 =>
bindO False (vBin none .neq v151 (.int .i64 0)) fun v153 =>
condW v153 (
weakW σ v151 σ152 fun v σ => R (.ret v) σ) (
bindO False (vBin none .add (x135 15) (.int .i64 1)) fun v154 =>
Φ134 (lookP [(0, (x135 0)), (15, v154), (5, (x135 5)), (9, (x135 9))]) σ152)) (fun e155 σ156 => R (.pan e155) σ156)) (fun e157 σ158 => R (.pan e157) σ158)) (
J131 (lookP []) σ136)) (lookP [(0, (x99 0)), (15, (.int .i64 0)), (5, (x99 5)), (9, (x99 9))]) σ122) (fun x132 σ133 =>
weakW σ (.int .i64 0) σ133 fun v σ => R (.ret v) σ)))) (fun e159 σ160 => R (.pan e159) σ160))))) (fun e161 σ162 => R (.pan e161) σ162)))))) (fun e163 σ164 => R (.pan e163) σ164)))) (fun e165 σ166 => R (.pan e165) σ166)

theorem fn118_eq (W : CallP) (a0 a1 a2 : PV) (σ : St) (R : Res → St → Prop) : bodyC (algP W) Tryz.prog annF 118 [a0, a1, a2] σ R = fn118 Tryz.prog W a0 a1 a2 σ R := by kernel_rfl

/-- environ/environref19.Symbol -/
def fn162 (Pr : Program) (W : CallP) (a0 : PV) (σ : St) (R : Res → St → Prop) : Prop :=
callB W 100 [a0] σ (fun v0 σ1 =>
bindO False (vExtract v0 0) fun v2 =>
bindO False (vExtract v0 1) fun v3 =>
guardG False v3 true (fun J4 =>
bindO False (vLen .sl v2 σ1) fun v7 =>
bindO False (vBin none .gtr v7 (.int .i64 0)) fun v8 =>
J4 (lookE [(12, (.v v2)), (13, (.v v7)), (14, (.v v8))]) σ1) σ1 (fun y5 σ6 =>
bindO False (vPick v3 (y5 14).pv (.bool false)) fun v9 =>
guardG False v9 true (fun J10 =>
bindO False (vLen .sl v2 σ6) fun v13 =>
bindO False (vBin none .sub v13 (.int .i64 1)) fun v14 =>
bindO False (vIndex 1 v2 v14) fun v15 =>
bindO False (vLoad false 1 v15 σ6) fun v16 =>
bindO False (vBin none .eql v16 (.str [115, 121, 109, 98, 111, 108])) fun v17 =>
J10 (lookE [(17, (.v v2)), (18, (.v v2)), (19, (.v v13)), (20, (.v v14)), (21, (.v v15)), (22, (.v v16)), (23, (.v v17))]) σ6) σ6 (fun y11 σ12 =>
bindO False (vPick v9 (y11 23).pv (.bool false)) fun v18 =>
weakW σ v18 σ12 fun v σ => R (.ret v) σ))) (fun e19 σ20 => R (.pan e19) σ20)

theorem fn162_eq (W : CallP) (a0 : PV) (σ : St) (R : Res → St → Prop) : bodyC (algP W) Tryz.prog annF 162 [a0] σ R = fn162 Tryz.prog W a0 σ R := by kernel_rfl

/-- environ/environref19.Parameters -/
def fn163 (Pr : Program) (W : CallP) (a0 : PV) (σ : St) (R : Res → St → Prop) : Prop :=
bindO False (opC.vBoxAny a0) fun z0 =>
bindO False (vPart false 1 z0.2 0) fun v1 =>
bindO False (vBuildSl 1 (List.replicate 1 (.list .nil [])) [(0, v1)]) fun v2 =>
bindO False (vPart false 1 z0.2 1) fun v3 =>
bindS (vAppend 1 24 (.list .full v2) v3 σ) fun v4 σ5 =>
CutW σ (fun J6 =>
Lfp σ (fun Φ9 x10 σ11 =>
bindO False (vLen .sl (x10 4) σ11) fun v12 =>
bindO False (vBin none .lss (x10 5) v12) fun v13 =>
condW v13 (
CutW σ (fun J14 =>
Lfp σ (fun Φ17 x18 σ19 =>
bindO False (vIndex 1 (x18 4) (x18 5)) fun v20 =>
bindO False (vLoad false 1 v20 σ19) fun v21 =>
bindO False (vLen .sl v21 σ19) fun v22 =>
bindO False (vBin none .lss (x18 6) v22) fun v23 =>
condW v23 (
CutW σ (fun J24 =>
bindO False (vIndex 1 (x18 4) (x18 5)) fun v27 =>
bindO False (vLoad false 1 v27 σ19) fun v28 =>
bindO False (vIndex 2 v28 (x18 6)) fun v29 =>
bindO False (vField 1 v29) fun v30 =>
bindO False (vLoad false 1 v30 σ19) fun v31 =>
callB W 99 [(x18 3), v31] σ19 (fun v32 σ33 =>
bindO False (vExtract v32 0) fun v34 =>
bindO False (vExtract v32 1) fun v35 =>
bindO False (vIndex 1 (x18 4) (x18 5)) fun v36 =>
bindO False (vLoad false 1 v36 σ33) fun v37 =>
bindO False (vIndex 2 v37 (x18 6)) fun v38 =>
bindO False (vField 0 v38) fun v39 =>
bindO False (vLoad false 1 v39 σ33) fun v40 =>
guardG False v40 true (fun J41 =>
bindO False (vUn .not v35) fun v44 =>
J41 (lookE [(54, (.v v35)), (55, (.v v44))]) σ33) σ33 (fun y42 σ43 =>
bindO False (vPick v40 (y42 55).pv (.bool false)) fun v45 =>
condW v45 (
bindO False (vIndex 1 (x18 4) (x18 5)) fun v46 =>
bindO False (vLoad false 1 v46 σ43) fun v47 =>
bindO False (vIndex 2 v47 (x18 6)) fun v48 =>
bindO False (vField 1 v48) fun v49 =>
bindO False (vLoad false 1 v49 σ43) fun v50 =>
bindO False (vBuild [(.str []), (.str [])] [(0, 1, v50)]) fun v51 =>
callB W 147 [(x18 3), (.agg v51)] σ43 (fun v52 σ53 =>
J24 (lookP [(3, v52), (4, (x18 4)), (5, (x18 5)), (6, (x18 6))]) σ53) (fun e54 σ55 => R (.pan e54) σ55)) (
J24 (lookP [(3, (x18 3)), (4, (x18 4)), (5, (x18 5)), (6, (x18 6))]) σ43))) (fun e56 σ57 => R (.pan e56) σ57)) (fun x25 σ26 =>
bindO False (vBin none .add (x25 6) (.int .i64 1)) fun v58 =>
Φ17 (lookP [(3, (x25 3)), (4, (x25 4)), (5, (x25 5)), (6, v58)]) σ26)) (
J14 (lookP [(3, (x18 3)), (4, (x18 4)), (5, (x18 5))]) σ19)) (lookP [(3, (x10 3)), (4, (x10 4)), (5, (x10 5)), (6, (.int .i64 0))]) σ11) (fun x15 σ16 =>
bindO False (vBin none .add (x15 5) (.int .i64 1)) fun v59 =>
Φ9 (lookP [(3, (x15 3)), (4, (x15 4)), (5, v59)]) σ16)) (
J6 (lookP [(3, (x10 3))]) σ11)) (lookP [(3, (.list .nil [])), (4, v4), (5, (.int .i64 0))]) σ5) (fun x7 σ8 =>
CutW σ (fun J60 =>
Lfp σ (fun Φ63 x64 σ65 =>
bindO False (vLen .sl (x64 3) σ65) fun v66 =>
bindO False (vBin none .lss (x64 10) v66) fun v67 =>
condW v67 (
bindO False (vIndex 2 (x64 3) (x64 10)) fun v68 =>
bindO False (vField 0 v68) fun v69 =>
bindO False (vLoad false 1 v69 σ65) fun v70 =>
bindO False (vBuildSl 1 (List.replicate 1 (.str [])) [(0, v70)]) fun v71 =>
bindS (vAppend 1 16 (x64 9) (.list .full v71) σ65) fun v72 σ73 =>
bindO False (vBin none .add (x64 10) (.int .i64 1)) fun v74 =>
Φ63 (lookP [(3, (x64 3)), (9, v72), (10, v74)]) σ73) (
J60 (lookP [(9, (x64 9))]) σ65)) (lookP [(3, (x7 3)), (9, (.list .nil [])), (10, (.int .i64 0))]) σ8) (fun x61 σ62 =>
weakW σ (x61 9) σ62 fun v σ => R (.ret v) σ))

theorem fn163_eq (W : CallP) (a0 : PV) (σ : St) (R : Res → St → Prop) : bodyC (algP W) Tryz.prog annF 163 [a0] σ R = fn163 Tryz.prog W a0 σ R := by kernel_rfl

/-- (*environ/environref19.kernel).produces -/
def fn164 (Pr : Program) (W : CallP) (a0 a1 a2 : PV) (σ : St) (R : Res → St → Prop) : Prop :=
CutW σ (fun J0 =>
Lfp σ (fun Φ3 x4 σ5 =>
bindO False (vNil (x4 0)) fun v6 =>
bindO False (vField 2 v6) fun v7 =>
bindO False (vLoad false 1 v7 σ5) fun v8 =>
bindO False (vLen .sl v8 σ5) fun v9 =>
bindO False (vBin none .lss (x4 7) v9) fun v10 =>
condW v10 (
bindO False (vNil (x4 0)) fun v11 =>
bindO False (vField 2 v11) fun v12 =>
bindO False (vLoad false 1 v12 σ5) fun v13 =>
bindO False (vIndex 2 v13 (x4 7)) fun v14 =>
bindO False (vField 0 v14) fun v15 =>
bindO False (vLoad false 1 v15 σ5) fun v16 =>
bindO False (vBin none .eql v16 (x4 1)) fun v17 =>
guardG False v17 true (fun J18 =>
bindO False (vNil (x4 0)) fun v21 =>
bindO False (vField 2 v21) fun v22 =>
bindO False (vLoad false 1 v22 σ5) fun v23 =>
bindO False (vIndex 2 v23 (x4 7)) fun v24 =>
bindO False (vField 1 v24) fun v25 =>
bindO False (vLoad false 1 v25 σ5) fun v26 =>
bindO False (vBin none .eql v26 (x4 2)) fun v27 =>
J18 (lookE [(30, (.v (x4 0))), (31, (.v v21)), (32, (.v v22)), (33, (.v v23)), (34, (.v (x4 7))), (35, (.v v24)), (36, (.v v25)), (37, (.v v26)), (38, (.v (x4 2))), (39, (.v v27))]) σ5) σ5 (fun y19 σ20 =>
bindO False (vPick v17 (y19 39).pv (.bool false)) fun v28 =>
condW v28 (
weakW σ (.bool true) σ20 fun v σ => R (.ret v) σ) (
bindO False (vBin none .add (x4 7) (.int .i64 1)) fun v29 =>
Φ3 (lookP [(0, (x4 0)), (1, (x4 1)), (2, (x4 2)), (7, v29)]) σ20))) (
J0 (lookP [(0, (x4 0)), (1, (x4 1)), (2, (x4 2))]) σ5)) (lookP [(0, a0), (1, a1), (2, a2), (7, (.int .i64 0))]) σ) (fun x1 σ2 =>
callB W 74 [(x1 2)] σ2 (fun v30 σ31 =>
bindO False (vExtract v30 0) fun v32 =>
bindO False (vExtract v30 1) fun v33 =>
bindO False (vBin none .neq v33 (.int .i64 0)) fun v34 =>
guardG False v34 false (fun J35 =>
bindO False (vNil (x1 0)) fun v38 =>
bindO False (vField 0 v38) fun v39 =>
bindO False (vLoad true 2 v39 σ31) fun v40 =>
bindO False (vNil (x1 0)) fun v41 =>
bindO False (vField 0 v41) fun v42 =>
bindO False (vLoad true 2 v42 σ31) fun v43 =>
bindO False (vLen .sl v32 []) fun v44 =>
callC W 75 [v40, v32] σ31 fun v45 _ =>
callB W 67 [v43, (x1 1)] σ31 (fun v46 σ47 =>
bindO False (vIndex 1 v45 v46) fun v48 =>
bindO False (vLoad false 1 v48 σ47) fun v49 =>
bindO False (vIndex 1 v49 (.int .i64 0)) fun v50 =>
bindO False (vLoad false 1 v50 σ47) fun v51 =>
bindO False (vIndex 1 v51 v44) fun v52 =>
bindO False (vLoad false 1 v52 σ47) fun v53 =>
bindO False (vUn .not v53) fun v54 =>
J35 (lookE [(49, (.v (x1 0))), (50, (.v v38)), (51, (.v v39)), (52, (.v v40)), (53, (.v v32)), (55, (.v (x1 0))), (56, (.v v41)), (57, (.v v42)), (58, (.v v43)), (59, (.v (x1 1))), (65, (.v v32)), (66, (.v v44)), (54, (.v v45)), (60, (.v v46)), (61, (.v v48)), (62, (.v v49)), (63, (.v v50)), (64, (.v v51)), (67, (.v v52)), (68, (.v v53)), (69, (.v v54))]) σ47) (fun e55 σ56 => R (.pan e55) σ56)) σ31 (fun y36 σ37 =>
bindO False (vPick v34 (.bool true) (y36 69).pv) fun v57 =>
condW v57 (
weakW σ (.bool false) σ37 fun v σ => R (.ret v) σ) (
bindO False (vNil (x1 0)) fun v58 =>
bindO False (vField 2 v58) fun v59 =>
bindO False (vLoad false 1 v59 σ37) fun v60 =>
bindO False (vBuild [(.str []), (.str [])] [(0, 1, (x1 1)), (1, 1, (x1 2))]) fun v61 =>
bindO False (vBuildSl 2 (List.replicate 1 (.agg [(.str []), (.str [])])) [(0, (.agg v61))]) fun v62 =>
bindS (vAppend 2 32 v60 (.list .full v62) σ37) fun v63 σ64 =>
bindO False (vNil (x1 0)) fun v65 =>
bindO False (vField 2 v65) fun v66 =>
bindO False (vStore 1 v66 v63 σ64) fun σ67 =>
weakW σ (.bool true) σ67 fun v σ => R (.ret v) σ))) (fun e68 σ69 => R (.pan e68) σ69))

theorem fn164_eq (W : CallP) (a0 a1 a2 : PV) (σ : St) (R : Res → St → Prop) : bodyC (algP W) Tryz.prog annF 164 [a0, a1, a2] σ R = fn164 Tryz.prog W a0 a1 a2 σ R := by kernel_rfl

end Go.Proofs.YtiniifbmeobmgaaGreatDoor
