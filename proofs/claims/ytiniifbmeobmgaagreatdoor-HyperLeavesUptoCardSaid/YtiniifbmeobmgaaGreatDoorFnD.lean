/- The bodies of some functions, as the abstract machine reads them (printed by wip/tools/Pr.lean), each held against the program's form by the kernel. -/
import Derived.KernelRfl
import Derived.Test.YtiniifbmeobmgaaGreatDoorAnn
import Derived.Test.YtiniifbmeobmgaaGreatDoorProg
set_option linter.unusedVariables false
namespace Go.Proofs.YtiniifbmeobmgaaGreatDoor
open Go Go.Abs

/-- environ/hyper.Matches -/
def fn23 (Pr : Program) (W : CallP) (a0 a1 a2 a3 : PV) (σ : St) (R : Res → St → Prop) : Prop :=
bindO False (opC.vBoxAny a0) fun z0 =>
if 0 < z0.1 then newW z0.1 z0.2 σ fun p1 σ2 =>
bindO False (vLoad true 2 p1 σ2) fun v3 =>
callB W 15 [v3] σ2 (fun v4 σ5 =>
bindO False (vBin none .neq v4 (.int .i64 0)) fun v6 =>
condW v6 (
weakW σ (.tuple [(.list .nil []), v4]) σ5 fun v σ => R (.ret v) σ) (
callB W 59 [a1, (.bool true)] σ5 (fun v7 σ8 =>
bindO False (vUn .not v7) fun v9 =>
condW v9 (
weakW σ (.tuple [(.list .nil []), (.int .i64 8)]) σ8 fun v σ => R (.ret v) σ) (
callB W 62 [a1, (.func 91 [p1])] σ8 (fun v10 σ11 =>
condW v10 (
weakW σ (.tuple [(.list .nil []), (.int .i64 4)]) σ11 fun v σ => R (.ret v) σ) (
callB W 71 [a2] σ11 (fun v12 σ13 =>
bindO False (vExtract v12 0) fun v14 =>
bindO False (vExtract v12 1) fun v15 =>
bindO False (vUn .not v15) fun v16 =>
condW v16 (
weakW σ (.tuple [(.list .nil []), (.int .i64 2)]) σ13 fun v σ => R (.ret v) σ) (
bindO False (vLen .sl v14 σ13) fun v17 =>
bindO False (vBin none .gtr v17 (.int .i64 200)) fun v18 =>
guardG False v18 false (fun J19 =>
bindO False (vBin none .lss a3 (.int .i64 0)) fun v22 =>
J19 (lookE [(41, (.v a3)), (42, (.v v22))]) σ13) σ13 (fun y20 σ21 =>
bindO False (vPick v18 (.bool true) (y20 42).pv) fun v23 =>
condW v23 (
weakW σ (.tuple [(.list .nil []), (.int .i64 3)]) σ21 fun v σ => R (.ret v) σ) (
bindO False (vLoad true 2 p1 σ21) fun v24 =>
callB W 73 [v24, v14] σ21 (fun v25 σ26 =>
newMapW σ26 fun v27 σ28 =>
bindO False (vBuild [.nilptr, (.list .nil []), (.list .nil []), .nilmap, (.list .nil []), (.int .i64 0)] [(0, 1, v25), (1, 1, a1), (3, 1, v27), (5, 1, a3)]) fun v29 =>
bindO False (opC.vBoxAny (.agg v29)) fun z30 =>
if 0 < z30.1 then newW z30.1 z30.2 σ28 fun p31 σ32 =>
bindO False (vLen .sl a1 σ32) fun v33 =>
bindO False (vBin none .add v33 (.int .i64 1)) fun v34 =>
bindS (vMakeSl 1 24 (.list .nil []) v34 v34 σ32) fun v35 σ36 =>
bindO False (vNil p31) fun v37 =>
bindO False (vField 2 v37) fun v38 =>
bindO False (vStore 1 v38 v35 σ36) fun σ39 =>
bindO False (vLen .sl a1 σ39) fun v40 =>
Lfp σ (fun Φ41 x42 σ43 =>
bindO False (vBin none .geq (x42 14) (.int .i64 0)) fun v44 =>
condW v44 (
bindO False (vNil (x42 13)) fun v45 =>
bindO False (vField 2 v45) fun v46 =>
bindO False (vLoad false 1 v46 σ43) fun v47 =>
bindO False (vLen .sl (x42 11) σ43) fun v48 =>
bindO False (vBin none .add v48 (.int .i64 1)) fun v49 =>
bindS (vMakeSl 1 1 (.bool false) v49 v49 σ43) fun v50 σ51 =>
bindO False (vIndex 1 v47 (x42 14)) fun v52 =>
bindO False (vStore 1 v52 v50 σ51) fun σ53 =>
bindO False (vNil (x42 13)) fun v54 =>
bindO False (vField 2 v54) fun v55 =>
bindO False (vLoad false 1 v55 σ53) fun v56 =>
bindO False (vIndex 1 v56 (x42 14)) fun v57 =>
bindO False (vLoad false 1 v57 σ53) fun v58 =>
bindO False (vLen .sl v58 σ53) fun v59 =>
Lfp σ (fun Φ60 x61 σ62 =>
bindO False (vBin none .lss (x61 83) (x61 82)) fun v63 =>
condW v63 (
bindO False (vLen .sl (x61 1) σ62) fun v64 =>
bindO False (vBin none .eql (x61 14) v64) fun v65 =>
condW v65 (
bindO False (vNil (x61 13)) fun v66 =>
bindO False (vField 2 v66) fun v67 =>
bindO False (vLoad false 1 v67 σ62) fun v68 =>
bindO False (vIndex 1 v68 (x61 14)) fun v69 =>
bindO False (vLoad false 1 v69 σ62) fun v70 =>
bindO False (vLen .sl (x61 11) σ62) fun v71 =>
bindO False (vBin none .eql (x61 83) v71) fun v72 =>
bindO False (vIndex 1 v70 (x61 83)) fun v73 =>
bindO False (vStore 1 v73 v72 σ62) fun σ74 =>
bindO False (vBin none .add (x61 83) (.int .i64 1)) fun v75 =>
Φ60 (lookP [(1, (x61 1)), (11, (x61 11)), (13, (x61 13)), (14, (x61 14)), (82, (x61 82)), (83, v75)]) σ74) (
Lfp σ (fun Φ76 x77 σ78 =>
bindO False (vBin none .add (x77 15) (x77 16)) fun v79 =>
bindO False (vLen .sl (x77 11) σ78) fun v80 =>
bindO False (vBin none .leq v79 v80) fun v81 =>
condW v81 (
bindO False (vNil (x77 13)) fun v82 =>
bindO False (vField 2 v82) fun v83 =>
bindO False (vLoad false 1 v83 σ78) fun v84 =>
bindO False (vIndex 1 v84 (x77 14)) fun v85 =>
bindO False (vLoad false 1 v85 σ78) fun v86 =>
bindO False (vNil (x77 13)) fun v87 =>
bindO False (vField 2 v87) fun v88 =>
bindO False (vLoad false 1 v88 σ78) fun v89 =>
bindO False (vIndex 1 v89 (x77 14)) fun v90 =>
bindO False (vLoad false 1 v90 σ78) fun v91 =>
bindO False (vIndex 1 v91 (x77 15)) fun v92 =>
bindO False (vLoad false 1 v92 σ78) fun v93 =>
guardG False v93 false (fun J94 =>
bindO False (vNil (x77 13)) fun v97 =>
bindO False (vField 2 v97) fun v98 =>
bindO False (vLoad false 1 v98 σ78) fun v99 =>
bindO False (vBin none .add (x77 14) (.int .i64 1)) fun v100 =>
bindO False (vIndex 1 v99 v100) fun v101 =>
bindO False (vLoad false 1 v101 σ78) fun v102 =>
bindO False (vBin none .add (x77 15) (x77 16)) fun v103 =>
bindO False (vIndex 1 v102 v103) fun v104 =>
bindO False (vLoad false 1 v104 σ78) fun v105 =>
J94 (lookE [(130, (.v (x77 13))), (131, (.v v97)), (132, (.v v98)), (133, (.v v99)), (134, (.v (x77 14))), (135, (.v v100)), (136, (.v v101)), (137, (.v v102)), (138, (.v (x77 15))), (139, (.v (x77 16))), (140, (.v v103)), (141, (.v v104)), (142, (.v v105)), (143, (.v v105))]) σ78) σ78 (fun y95 σ96 =>
guardG False (y95 143).pv true (fun J106 =>
bindO False (vNil (x77 13)) fun v109 =>
bindO False (vField 0 v109) fun v110 =>
bindO False (vLoad false 1 v110 σ96) fun v111 =>
bindO False (vIndex 2 (x77 1) (x77 14)) fun v112 =>
bindO False (vLoad true 2 v112 σ96) fun v113 =>
callC W 93 [v111, v113, (x77 15), (x77 16)] σ96 fun v114 _ =>
J106 (lookE [(144, (.v (x77 13))), (145, (.v v109)), (146, (.v v110)), (147, (.v v111)), (148, (.v (x77 1))), (149, (.v (x77 14))), (150, (.v v112)), (151, (.v v113)), (152, (.v (x77 15))), (153, (.v (x77 16))), (154, (.v v114))]) σ96) σ96 (fun y107 σ108 =>
guardG False v93 false (fun J115 =>
bindO False (vPick (y95 143).pv (y107 154).pv (.bool false)) fun v118 =>
J115 (lookE [(155, (.v v118))]) σ108) σ108 (fun y116 σ117 =>
bindO False (vPick v93 (.bool true) (y116 155).pv) fun v119 =>
bindO False (vIndex 1 v86 (x77 15)) fun v120 =>
bindO False (vStore 1 v120 v119 σ117) fun σ121 =>
bindO False (vBin none .add (x77 16) (.int .i64 1)) fun v122 =>
Φ76 (lookP [(1, (x77 1)), (11, (x77 11)), (13, (x77 13)), (14, (x77 14)), (15, (x77 15)), (16, v122), (82, (x77 82)), (83, (x77 83))]) σ121)))) (
bindO False (vBin none .add (x77 83) (.int .i64 1)) fun v123 =>
Φ60 (lookP [(1, (x77 1)), (11, (x77 11)), (13, (x77 13)), (14, (x77 14)), (82, (x77 82)), (83, v123)]) σ78)) (lookP [(1, (x61 1)), (11, (x61 11)), (13, (x61 13)), (14, (x61 14)), (15, (x61 83)), (16, (.int .i64 0)), (82, (x61 82)), (83, (x61 83))]) σ62)) (
bindO False (vBin none .sub (x61 14) (.int .i64 1)) fun v124 =>
Φ41 (lookP [(1, (x61 1)), (11, (x61 11)), (13, (x61 13)), (14, v124)]) σ62)) (lookP [(1, (x42 1)), (11, (x42 11)), (13, (x42 13)), (14, (x42 14)), (82, v59), (83, (.int .i64 0))]) σ53) (
callB W 94 [(x42 13), (.int .i64 0), (.int .i64 0)] σ43 (fun v125 σ126 =>
bindO False (vUn .not v125) fun v127 =>
condW v127 (
weakW σ (.tuple [(.list .nil []), (.int .i64 3)]) σ126 fun v σ => R (.ret v) σ) (
bindO False (vNil (x42 13)) fun v128 =>
bindO False (vField 4 v128) fun v129 =>
bindO False (vLoad false 1 v129 σ126) fun v130 =>
weakW σ (.tuple [v130, (.int .i64 0)]) σ126 fun v σ => R (.ret v) σ)) (fun e131 σ132 => R (.pan e131) σ132))) (lookP [(1, a1), (11, v14), (13, p31), (14, v40)]) σ39 else False) (fun e133 σ134 => R (.pan e133) σ134))))) (fun e135 σ136 => R (.pan e135) σ136))) (fun e137 σ138 => R (.pan e137) σ138))) (fun e139 σ140 => R (.pan e139) σ140))) (fun e141 σ142 => R (.pan e141) σ142) else False

theorem fn23_eq (W : CallP) (a0 a1 a2 a3 : PV) (σ : St) (R : Res → St → Prop) : bodyC (algP W) Tryz.prog annF 23 [a0, a1, a2, a3] σ R = fn23 Tryz.prog W a0 a1 a2 a3 σ R := by kernel_rfl

/-- environ/hyper.Matches$1 -/
def fn91 (Pr : Program) (W : CallP) (a0 a1 : PV) (σ : St) (R : Res → St → Prop) : Prop :=
bindO False (opC.vBoxAny a0) fun z0 =>
if 0 < z0.1 then newW z0.1 z0.2 σ fun p1 σ2 =>
bindO False (vField 0 p1) fun v3 =>
bindO False (vLoad false 1 v3 σ2) fun v4 =>
guardG False v4 true (fun J5 =>
bindO False (vField 0 a1) fun v8 =>
bindO False (vLoad false 1 v8 σ2) fun v9 =>
callB W 35 [v9, (.func 92 [p1])] σ2 (fun v10 σ11 =>
bindO False (vUn .not v10) fun v12 =>
J5 (lookE [(7, (.v v8)), (8, (.v v9)), (9, (.v (.func 92 [p1]))), (10, (.v v10)), (11, (.v v12))]) σ11) (fun e13 σ14 => R (.pan e13) σ14)) σ2 (fun y6 σ7 =>
bindO False (vPick v4 (y6 11).pv (.bool false)) fun v15 =>
weakW σ v15 σ7 fun v σ => R (.ret v) σ) else False

theorem fn91_eq (W : CallP) (a0 a1 : PV) (σ : St) (R : Res → St → Prop) : bodyC (algP W) Tryz.prog annF 91 [a0, a1] σ R = fn91 Tryz.prog W a0 a1 σ R := by kernel_rfl

/-- environ/hyper.Matches$1$1 -/
def fn92 (Pr : Program) (W : CallP) (a0 a1 : PV) (σ : St) (R : Res → St → Prop) : Prop :=
bindO False (opC.vBoxAny a0) fun z0 =>
bindO False (vPart false 1 z0.2 0) fun v1 =>
bindO False (vField 1 a1) fun v2 =>
bindO False (vLoad false 1 v2 σ) fun v3 =>
callB W 64 [v3] σ (fun v4 σ5 =>
bindO False (vBin none .eql v1 v4) fun v6 =>
weakW σ v6 σ5 fun v σ => R (.ret v) σ) (fun e7 σ8 => R (.pan e7) σ8)

theorem fn92_eq (W : CallP) (a0 a1 : PV) (σ : St) (R : Res → St → Prop) : bodyC (algP W) Tryz.prog annF 92 [a0, a1] σ R = fn92 Tryz.prog W a0 a1 σ R := by kernel_rfl

/-- (*environ/hyper.matcher).match -/
def fn94 (Pr : Program) (W : CallP) (a0 a1 a2 : PV) (σ : St) (R : Res → St → Prop) : Prop :=
bindO False (vNil a0) fun v0 =>
bindO False (vField 2 v0) fun v1 =>
bindO False (vLoad false 1 v1 σ) fun v2 =>
bindO False (vIndex 1 v2 a1) fun v3 =>
bindO False (vLoad false 1 v3 σ) fun v4 =>
bindO False (vIndex 1 v4 a2) fun v5 =>
bindO False (vLoad false 1 v5 σ) fun v6 =>
bindO False (vUn .not v6) fun v7 =>
condW v7 (
weakW σ (.bool true) σ fun v σ => R (.ret v) σ) (
bindO False (vNil a0) fun v8 =>
bindO False (vField 1 v8) fun v9 =>
bindO False (vLoad false 1 v9 σ) fun v10 =>
bindO False (vLen .sl v10 σ) fun v11 =>
bindO False (vBin none .eql a1 v11) fun v12 =>
condW v12 (
bindO False (vNil a0) fun v13 =>
bindO False (vField 3 v13) fun v14 =>
bindO False (vLoad false 1 v14 σ) fun v15 =>
bindS (vRange v15 σ) fun v16 σ17 =>
Lfp σ (fun Φ18 x19 σ20 =>
bindO False (vNexts (x19 38) σ20) fun l21 => allW l21 fun v22 σ23 =>
bindO False (vExtract v22 0) fun v24 =>
condW v24 (
bindO False (vEntry (x19 38) σ23) fun v25 =>
bindO False (vExtract v25 0) fun v26 =>
bindO False (vExtract v25 1) fun v27 =>
bindO False (vBuild [(.str []), (.str [])] [(0, 1, v26), (1, 1, v27)]) fun v28 =>
bindO False (vBuildSl 2 (List.replicate 1 (.agg [(.str []), (.str [])])) [(0, (.agg v28))]) fun v29 =>
bindS (vAppend 2 32 (x19 7) (.list .full v29) σ23) fun v30 σ31 =>
Φ18 (lookP [(0, (x19 0)), (7, v30), (38, (x19 38))]) σ31) (
callB W 144 [(x19 7), (.func 145 [])] σ23 (fun v32 σ33 =>
bindO False (vNil (x19 0)) fun v34 =>
bindO False (vField 4 v34) fun v35 =>
bindO False (vLoad false 1 v35 σ33) fun v36 =>
bindO False (vBuildSl 1 (List.replicate 1 (.list .nil [])) [(0, (x19 7))]) fun v37 =>
bindS (vAppend 1 24 v36 (.list .full v37) σ33) fun v38 σ39 =>
bindO False (vNil (x19 0)) fun v40 =>
bindO False (vField 4 v40) fun v41 =>
bindO False (vStore 1 v41 v38 σ39) fun σ42 =>
bindO False (vNil (x19 0)) fun v43 =>
bindO False (vField 4 v43) fun v44 =>
bindO False (vLoad false 1 v44 σ42) fun v45 =>
bindO False (vLen .sl v45 σ42) fun v46 =>
bindO False (vNil (x19 0)) fun v47 =>
bindO False (vField 5 v47) fun v48 =>
bindO False (vLoad false 1 v48 σ42) fun v49 =>
bindO False (vBin none .leq v46 v49) fun v50 =>
weakW σ v50 σ42 fun v σ => R (.ret v) σ) (fun e51 σ52 => R (.pan e51) σ52))) (lookP [(0, a0), (7, (.list .nil [])), (38, v16)]) σ17) (
bindO False (vNil a0) fun v53 =>
bindO False (vField 1 v53) fun v54 =>
bindO False (vLoad false 1 v54 σ) fun v55 =>
bindO False (vIndex 2 v55 a1) fun v56 =>
bindO False (vLoad true 2 v56 σ) fun v57 =>
bindO False (vPut 2 (.agg [(.bool false), (.str [])]) 0 v57) fun z58 =>
bindO False (vNil a0) fun v59 =>
bindO False (vField 3 v59) fun v60 =>
bindO False (vLoad false 1 v60 σ) fun v61 =>
bindO False (vPart false 1 z58 1) fun v62 =>
bindO False (vLookup .str (.str []) true v61 v62 σ) fun v63 =>
bindO False (vExtract v63 0) fun v64 =>
bindO False (vExtract v63 1) fun v65 =>
Lfp σ (fun Φ66 x67 σ68 =>
bindO False (vBin none .add (x67 2) (x67 13)) fun v69 =>
bindO False (vNil (x67 0)) fun v70 =>
bindO False (vField 0 v70) fun v71 =>
bindO False (vLoad false 1 v71 σ68) fun v72 =>
bindO False (vNil v72) fun v73 =>
bindO False (vField 3 v73) fun v74 =>
bindO False (vLoad false 1 v74 σ68) fun v75 =>
bindO False (vLen .sl v75 σ68) fun v76 =>
bindO False (vBin none .leq v69 v76) fun v77 =>
condW v77 (
bindO False (vNil (x67 0)) fun v78 =>
bindO False (vField 0 v78) fun v79 =>
bindO False (vLoad false 1 v79 σ68) fun v80 =>
bindO False (vPart true 2 (x67 10) 0) fun v81 =>
callB W 93 [v80, v81, (x67 2), (x67 13)] σ68 (fun v82 σ83 =>
bindO False (vUn .not v82) fun v84 =>
condW v84 (
bindO False (vBin none .add (x67 13) (.int .i64 1)) fun v85 =>
Φ66 (lookP [(0, (x67 0)), (1, (x67 1)), (2, (x67 2)), (11, (x67 11)), (12, (x67 12)), (13, v85), (10, (x67 10))]) σ83) (
bindO False (vNil (x67 0)) fun v86 =>
bindO False (vField 0 v86) fun v87 =>
bindO False (vLoad false 1 v87 σ83) fun v88 =>
bindO False (vNil v88) fun v89 =>
bindO False (vField 3 v89) fun v90 =>
bindO False (vLoad false 1 v90 σ83) fun v91 =>
bindO False (vBin none .add (x67 2) (x67 13)) fun v92 =>
bindO False (vSubSl 1 v91 (some (x67 2)) (some v92)) fun v93 =>
callB W 98 [v93, (.str [32])] σ83 (fun v94 σ95 =>
bindO False (vPart false 1 (x67 10) 0) fun v96 =>
guardG False v96 true (fun J97 =>
J97 (lookE [(128, (.v (x67 12)))]) σ95) σ95 (fun y98 σ99 =>
bindO False (vPick v96 (y98 128).pv (.bool false)) fun v100 =>
guardG False v100 true (fun J101 =>
bindO False (vBin none .neq v94 (x67 11)) fun v104 =>
J101 (lookE [(131, (.v v94)), (132, (.v (x67 11))), (133, (.v v104))]) σ99) σ99 (fun y102 σ103 =>
bindO False (vPick v100 (y102 133).pv (.bool false)) fun v105 =>
condW v105 (
bindO False (vBin none .add (x67 13) (.int .i64 1)) fun v106 =>
Φ66 (lookP [(0, (x67 0)), (1, (x67 1)), (2, (x67 2)), (11, (x67 11)), (12, (x67 12)), (13, v106), (10, (x67 10))]) σ103) (
bindO False (vPart false 1 (x67 10) 0) fun v107 =>
guardG False v107 true (fun J108 =>
bindO False (vUn .not (x67 12)) fun v111 =>
J108 (lookE [(138, (.v (x67 12))), (139, (.v v111))]) σ103) σ103 (fun y109 σ110 =>
bindO False (vPick v107 (y109 139).pv (.bool false)) fun v112 =>
condW v112 (
bindO False (vNil (x67 0)) fun v113 =>
bindO False (vField 3 v113) fun v114 =>
bindO False (vLoad false 1 v114 σ110) fun v115 =>
bindO False (vPart false 1 (x67 10) 1) fun v116 =>
bindO False (vMapSet .str v115 v116 v94 σ110) fun σ117 =>
bindO False (vBin none .add (x67 1) (.int .i64 1)) fun v118 =>
bindO False (vBin none .add (x67 2) (x67 13)) fun v119 =>
callB W 94 [(x67 0), v118, v119] σ117 (fun v120 σ121 =>
bindO False (vPart false 1 (x67 10) 0) fun v122 =>
guardG False v122 true (fun J123 =>
bindO False (vUn .not (x67 12)) fun v126 =>
J123 (lookE [(158, (.v (x67 12))), (159, (.v v126))]) σ121) σ121 (fun y124 σ125 =>
bindO False (vPick v122 (y124 159).pv (.bool false)) fun v127 =>
condW v127 (
bindO False (vNil (x67 0)) fun v128 =>
bindO False (vField 3 v128) fun v129 =>
bindO False (vLoad false 1 v129 σ125) fun v130 =>
bindO False (vPart false 1 (x67 10) 1) fun v131 =>
bindO False (vMapDel .str v130 v131 σ125) fun σ132 =>
bindO False (vUn .not v120) fun v133 =>
condW v133 (
weakW σ (.bool false) σ132 fun v σ => R (.ret v) σ) (
bindO False (vBin none .add (x67 13) (.int .i64 1)) fun v134 =>
Φ66 (lookP [(0, (x67 0)), (1, (x67 1)), (2, (x67 2)), (11, (x67 11)), (12, (x67 12)), (13, v134), (10, (x67 10))]) σ132)) (
bindO False (vUn .not v120) fun v135 =>
condW v135 (
weakW σ (.bool false) σ125 fun v σ => R (.ret v) σ) (
bindO False (vBin none .add (x67 13) (.int .i64 1)) fun v136 =>
Φ66 (lookP [(0, (x67 0)), (1, (x67 1)), (2, (x67 2)), (11, (x67 11)), (12, (x67 12)), (13, v136), (10, (x67 10))]) σ125)))) (fun e137 σ138 => R (.pan e137) σ138)) (
bindO False (vBin none .add (x67 1) (.int .i64 1)) fun v139 =>
bindO False (vBin none .add (x67 2) (x67 13)) fun v140 =>
callB W 94 [(x67 0), v139, v140] σ110 (fun v141 σ142 =>
bindO False (vPart false 1 (x67 10) 0) fun v143 =>
guardG False v143 true (fun J144 =>
bindO False (vUn .not (x67 12)) fun v147 =>
J144 (lookE [(158, (.v (x67 12))), (159, (.v v147))]) σ142) σ142 (fun y145 σ146 =>
bindO False (vPick v143 (y145 159).pv (.bool false)) fun v148 =>
condW v148 (
bindO False (vNil (x67 0)) fun v149 =>
bindO False (vField 3 v149) fun v150 =>
bindO False (vLoad false 1 v150 σ146) fun v151 =>
bindO False (vPart false 1 (x67 10) 1) fun v152 =>
bindO False (vMapDel .str v151 v152 σ146) fun σ153 =>
bindO False (vUn .not v141) fun v154 =>
condW v154 (
weakW σ (.bool false) σ153 fun v σ => R (.ret v) σ) (
bindO False (vBin none .add (x67 13) (.int .i64 1)) fun v155 =>
Φ66 (lookP [(0, (x67 0)), (1, (x67 1)), (2, (x67 2)), (11, (x67 11)), (12, (x67 12)), (13, v155), (10, (x67 10))]) σ153)) (
bindO False (vUn .not v141) fun v156 =>
condW v156 (
weakW σ (.bool false) σ146 fun v σ => R (.ret v) σ) (
bindO False (vBin none .add (x67 13) (.int .i64 1)) fun v157 =>
Φ66 (lookP [(0, (x67 0)), (1, (x67 1)), (2, (x67 2)), (11, (x67 11)), (12, (x67 12)), (13, v157), (10, (x67 10))]) σ146)))) (fun e158 σ159 => R (.pan e158) σ159))))))) (fun e160 σ161 => R (.pan e160) σ161))) (fun e162 σ163 => R (.pan e162) σ163)) (
weakW σ (.bool true) σ68 fun v σ => R (.ret v) σ)) (lookP [(0, a0), (1, a1), (2, a2), (11, v64), (12, v65), (13, (.int .i64 0)), (10, z58)]) σ))

theorem fn94_eq (W : CallP) (a0 a1 a2 : PV) (σ : St) (R : Res → St → Prop) : bodyC (algP W) Tryz.prog annF 94 [a0, a1, a2] σ R = fn94 Tryz.prog W a0 a1 a2 σ R := by kernel_rfl

/-- slices.SortFunc[[]environ/hyper.Bind,environ/hyper.Bind] -/
def fn144 (Pr : Program) (W : CallP) (a0 a1 : PV) (σ : St) (R : Res → St → Prop) : Prop :=
bindO False (vLen .sl a0 σ) fun v0 =>
bindO False (vConv .u64 v0) fun v1 =>
callB W 175 [v1] σ (fun v2 σ3 =>
callB W 174 [a0, (.int .i64 0), v0, v2, a1] σ3 (fun v4 σ5 =>
weakW σ (.tuple []) σ5 fun v σ => R (.ret v) σ) (fun e6 σ7 => R (.pan e6) σ7)) (fun e8 σ9 => R (.pan e8) σ9)

theorem fn144_eq (W : CallP) (a0 a1 : PV) (σ : St) (R : Res → St → Prop) : bodyC (algP W) Tryz.prog annF 144 [a0, a1] σ R = fn144 Tryz.prog W a0 a1 σ R := by kernel_rfl

/-- (*environ/hyper.matcher).match$1 -/
def fn145 (Pr : Program) (W : CallP) (a0 a1 : PV) (σ : St) (R : Res → St → Prop) : Prop :=
bindO False (opC.vBoxAny a0) fun z0 =>
bindO False (opC.vBoxAny a1) fun z1 =>
bindO False (vPart false 1 z0.2 0) fun v2 =>
bindO False (vPart false 1 z1.2 0) fun v3 =>
callB W 146 [v2, v3] σ (fun v4 σ5 =>
weakW σ v4 σ5 fun v σ => R (.ret v) σ) (fun e6 σ7 => R (.pan e6) σ7)

theorem fn145_eq (W : CallP) (a0 a1 : PV) (σ : St) (R : Res → St → Prop) : bodyC (algP W) Tryz.prog annF 145 [a0, a1] σ R = fn145 Tryz.prog W a0 a1 σ R := by kernel_rfl

/-- slices.pdqsortCmpFunc[environ/hyper.Bind] -/
def fn174 (Pr : Program) (W : CallP) (a0 a1 a2 a3 a4 : PV) (σ : St) (R : Res → St → Prop) : Prop :=
Lfp σ (fun Φ0 x1 σ2 =>
bindO False (vBin none .sub (x1 2) (x1 1)) fun v3 =>
bindO False (vBin none .leq v3 (.int .i64 12)) fun v4 =>
condW v4 (
callB W 191 [(x1 0), (x1 1), (x1 2), (x1 4)] σ2 (fun v5 σ6 =>
weakW σ (.tuple []) σ6 fun v σ => R (.ret v) σ) (fun e7 σ8 => R (.pan e7) σ8)) (
bindO False (vBin none .eql (x1 3) (.int .i64 0)) fun v9 =>
condW v9 (
callB W 192 [(x1 0), (x1 1), (x1 2), (x1 4)] σ2 (fun v10 σ11 =>
weakW σ (.tuple []) σ11 fun v σ => R (.ret v) σ) (fun e12 σ13 => R (.pan e12) σ13)) (
bindO False (vUn .not (x1 10)) fun v14 =>
condW v14 (
callB W 193 [(x1 0), (x1 1), (x1 2), (x1 4)] σ2 (fun v15 σ16 =>
bindO False (vBin none .sub (x1 3) (.int .i64 1)) fun v17 =>
callB W 194 [(x1 0), (x1 1), (x1 2), (x1 4)] σ16 (fun v18 σ19 =>
bindO False (vExtract v18 0) fun v20 =>
bindO False (vExtract v18 1) fun v21 =>
bindO False (vBin none .eql v21 (.int .i64 2)) fun v22 =>
condW v22 (
callB W 195 [(x1 0), (x1 1), (x1 2), (x1 4)] σ19 (fun v23 σ24 =>
bindO False (vBin none .sub (x1 2) (.int .i64 1)) fun v25 =>
bindO False (vBin none .sub v20 (x1 1)) fun v26 =>
bindO False (vBin none .sub v25 v26) fun v27 =>
guardG False (x1 10) true (fun J28 =>
J28 (lookE [(70, (.v (x1 11)))]) σ24) σ24 (fun y29 σ30 =>
bindO False (vPick (x1 10) (y29 70).pv (.bool false)) fun v31 =>
guardG False v31 true (fun J32 =>
bindO False (vBin none .eql (.int .i64 1) (.int .i64 1)) fun v35 =>
J32 (lookE [(73, (.v (.int .i64 1))), (74, (.v v35))]) σ30) σ30 (fun y33 σ34 =>
bindO False (vPick v31 (y33 74).pv (.bool false)) fun v36 =>
condW v36 (
callB W 196 [(x1 0), (x1 1), (x1 2), (x1 4)] σ34 (fun v37 σ38 =>
condW v37 (
weakW σ (.tuple []) σ38 fun v σ => R (.ret v) σ) (
bindO False (vBin none .gtr (x1 1) (.int .i64 0)) fun v39 =>
guardG False v39 true (fun J40 =>
bindO False (vBin none .sub (x1 1) (.int .i64 1)) fun v43 =>
bindO False (vIndex 2 (x1 0) v43) fun v44 =>
bindO False (vLoad true 2 v44 σ38) fun v45 =>
bindO False (vIndex 2 (x1 0) v27) fun v46 =>
bindO False (vLoad true 2 v46 σ38) fun v47 =>
callG (algP W) Pr false (x1 4) [v45, v47] σ38 (fun v48 σ49 =>
bindO False (vBin none .lss v48 (.int .i64 0)) fun v50 =>
bindO False (vUn .not v50) fun v51 =>
J40 (lookE [(84, (.v (x1 4))), (85, (.v (x1 0))), (86, (.v (x1 1))), (87, (.v v43)), (88, (.v v44)), (89, (.v v45)), (90, (.v (x1 0))), (91, (.v v27)), (92, (.v v46)), (93, (.v v47)), (94, (.v v48)), (95, (.v v50)), (96, (.v v51))]) σ49) (fun e52 σ53 => R (.pan e52) σ53)) σ38 (fun y41 σ42 =>
bindO False (vPick v39 (y41 96).pv (.bool false)) fun v54 =>
condW v54 (
callB W 197 [(x1 0), (x1 1), (x1 2), v27, (x1 4)] σ42 (fun v55 σ56 =>
Φ0 (lookP [(0, (x1 0)), (1, v55), (2, (x1 2)), (3, v17), (4, (x1 4)), (10, (x1 10)), (11, (x1 11))]) σ56) (fun e57 σ58 => R (.pan e57) σ58)) (
callB W 198 [(x1 0), (x1 1), (x1 2), v27, (x1 4)] σ42 (fun v59 σ60 =>
bindO False (vExtract v59 0) fun v61 =>
bindO False (vExtract v59 1) fun v62 =>
bindO False (vBin none .sub v61 (x1 1)) fun v63 =>
bindO False (vBin none .sub (x1 2) v61) fun v64 =>
bindO False (vBin none .quo v3 (.int .i64 8)) fun v65 =>
bindO False (vBin none .lss v63 v64) fun v66 =>
condW v66 (
bindO False (vBin none .geq v63 v65) fun v67 =>
callB W 174 [(x1 0), (x1 1), v61, v17, (x1 4)] σ60 (fun v68 σ69 =>
bindO False (vBin none .add v61 (.int .i64 1)) fun v70 =>
Φ0 (lookP [(0, (x1 0)), (1, v70), (2, (x1 2)), (3, v17), (4, (x1 4)), (10, v67), (11, v62)]) σ69) (fun e71 σ72 => R (.pan e71) σ72)) (
bindO False (vBin none .geq v64 v65) fun v73 =>
bindO False (vBin none .add v61 (.int .i64 1)) fun v74 =>
callB W 174 [(x1 0), v74, (x1 2), v17, (x1 4)] σ60 (fun v75 σ76 =>
Φ0 (lookP [(0, (x1 0)), (1, (x1 1)), (2, v61), (3, v17), (4, (x1 4)), (10, v73), (11, v62)]) σ76) (fun e77 σ78 => R (.pan e77) σ78))) (fun e79 σ80 => R (.pan e79) σ80))))) (fun e81 σ82 => R (.pan e81) σ82)) (
bindO False (vBin none .gtr (x1 1) (.int .i64 0)) fun v83 =>
guardG False v83 true (fun J84 =>
bindO False (vBin none .sub (x1 1) (.int .i64 1)) fun v87 =>
bindO False (vIndex 2 (x1 0) v87) fun v88 =>
bindO False (vLoad true 2 v88 σ34) fun v89 =>
bindO False (vIndex 2 (x1 0) v27) fun v90 =>
bindO False (vLoad true 2 v90 σ34) fun v91 =>
callG (algP W) Pr false (x1 4) [v89, v91] σ34 (fun v92 σ93 =>
bindO False (vBin none .lss v92 (.int .i64 0)) fun v94 =>
bindO False (vUn .not v94) fun v95 =>
J84 (lookE [(84, (.v (x1 4))), (85, (.v (x1 0))), (86, (.v (x1 1))), (87, (.v v87)), (88, (.v v88)), (89, (.v v89)), (90, (.v (x1 0))), (91, (.v v27)), (92, (.v v90)), (93, (.v v91)), (94, (.v v92)), (95, (.v v94)), (96, (.v v95))]) σ93) (fun e96 σ97 => R (.pan e96) σ97)) σ34 (fun y85 σ86 =>
bindO False (vPick v83 (y85 96).pv (.bool false)) fun v98 =>
condW v98 (
callB W 197 [(x1 0), (x1 1), (x1 2), v27, (x1 4)] σ86 (fun v99 σ100 =>
Φ0 (lookP [(0, (x1 0)), (1, v99), (2, (x1 2)), (3, v17), (4, (x1 4)), (10, (x1 10)), (11, (x1 11))]) σ100) (fun e101 σ102 => R (.pan e101) σ102)) (
callB W 198 [(x1 0), (x1 1), (x1 2), v27, (x1 4)] σ86 (fun v103 σ104 =>
bindO False (vExtract v103 0) fun v105 =>
bindO False (vExtract v103 1) fun v106 =>
bindO False (vBin none .sub v105 (x1 1)) fun v107 =>
bindO False (vBin none .sub (x1 2) v105) fun v108 =>
bindO False (vBin none .quo v3 (.int .i64 8)) fun v109 =>
bindO False (vBin none .lss v107 v108) fun v110 =>
condW v110 (
bindO False (vBin none .geq v107 v109) fun v111 =>
callB W 174 [(x1 0), (x1 1), v105, v17, (x1 4)] σ104 (fun v112 σ113 =>
bindO False (vBin none .add v105 (.int .i64 1)) fun v114 =>
Φ0 (lookP [(0, (x1 0)), (1, v114), (2, (x1 2)), (3, v17), (4, (x1 4)), (10, v111), (11, v106)]) σ113) (fun e115 σ116 => R (.pan e115) σ116)) (
bindO False (vBin none .geq v108 v109) fun v117 =>
bindO False (vBin none .add v105 (.int .i64 1)) fun v118 =>
callB W 174 [(x1 0), v118, (x1 2), v17, (x1 4)] σ104 (fun v119 σ120 =>
Φ0 (lookP [(0, (x1 0)), (1, (x1 1)), (2, v105), (3, v17), (4, (x1 4)), (10, v117), (11, v106)]) σ120) (fun e121 σ122 => R (.pan e121) σ122))) (fun e123 σ124 => R (.pan e123) σ124))))))) (fun e125 σ126 => R (.pan e125) σ126)) (
guardG False (x1 10) true (fun J127 =>
J127 (lookE [(70, (.v (x1 11)))]) σ19) σ19 (fun y128 σ129 =>
bindO False (vPick (x1 10) (y128 70).pv (.bool false)) fun v130 =>
guardG False v130 true (fun J131 =>
bindO False (vBin none .eql v21 (.int .i64 1)) fun v134 =>
J131 (lookE [(73, (.v v21)), (74, (.v v134))]) σ129) σ129 (fun y132 σ133 =>
bindO False (vPick v130 (y132 74).pv (.bool false)) fun v135 =>
condW v135 (
callB W 196 [(x1 0), (x1 1), (x1 2), (x1 4)] σ133 (fun v136 σ137 =>
condW v136 (
weakW σ (.tuple []) σ137 fun v σ => R (.ret v) σ) (
bindO False (vBin none .gtr (x1 1) (.int .i64 0)) fun v138 =>
guardG False v138 true (fun J139 =>
bindO False (vBin none .sub (x1 1) (.int .i64 1)) fun v142 =>
bindO False (vIndex 2 (x1 0) v142) fun v143 =>
bindO False (vLoad true 2 v143 σ137) fun v144 =>
bindO False (vIndex 2 (x1 0) v20) fun v145 =>
bindO False (vLoad true 2 v145 σ137) fun v146 =>
callG (algP W) Pr false (x1 4) [v144, v146] σ137 (fun v147 σ148 =>
bindO False (vBin none .lss v147 (.int .i64 0)) fun v149 =>
bindO False (vUn .not v149) fun v150 =>
J139 (lookE [(84, (.v (x1 4))), (85, (.v (x1 0))), (86, (.v (x1 1))), (87, (.v v142)), (88, (.v v143)), (89, (.v v144)), (90, (.v (x1 0))), (91, (.v v20)), (92, (.v v145)), (93, (.v v146)), (94, (.v v147)), (95, (.v v149)), (96, (.v v150))]) σ148) (fun e151 σ152 => R (.pan e151) σ152)) σ137 (fun y140 σ141 =>
bindO False (vPick v138 (y140 96).pv (.bool false)) fun v153 =>
condW v153 (
callB W 197 [(x1 0), (x1 1), (x1 2), v20, (x1 4)] σ141 (fun v154 σ155 =>
Φ0 (lookP [(0, (x1 0)), (1, v154), (2, (x1 2)), (3, v17), (4, (x1 4)), (10, (x1 10)), (11, (x1 11))]) σ155) (fun e156 σ157 => R (.pan e156) σ157)) (
callB W 198 [(x1 0), (x1 1), (x1 2), v20, (x1 4)] σ141 (fun v158 σ159 =>
bindO False (vExtract v158 0) fun v160 =>
bindO False (vExtract v158 1) fun v161 =>
bindO False (vBin none .sub v160 (x1 1)) fun v162 =>
bindO False (vBin none .sub (x1 2) v160) fun v163 =>
bindO False (vBin none .quo v3 (.int .i64 8)) fun v164 =>
bindO False (vBin none .lss v162 v163) fun v165 =>
condW v165 (
bindO False (vBin none .geq v162 v164) fun v166 =>
callB W 174 [(x1 0), (x1 1), v160, v17, (x1 4)] σ159 (fun v167 σ168 =>
bindO False (vBin none .add v160 (.int .i64 1)) fun v169 =>
Φ0 (lookP [(0, (x1 0)), (1, v169), (2, (x1 2)), (3, v17), (4, (x1 4)), (10, v166), (11, v161)]) σ168) (fun e170 σ171 => R (.pan e170) σ171)) (
bindO False (vBin none .geq v163 v164) fun v172 =>
bindO False (vBin none .add v160 (.int .i64 1)) fun v173 =>
callB W 174 [(x1 0), v173, (x1 2), v17, (x1 4)] σ159 (fun v174 σ175 =>
Φ0 (lookP [(0, (x1 0)), (1, (x1 1)), (2, v160), (3, v17), (4, (x1 4)), (10, v172), (11, v161)]) σ175) (fun e176 σ177 => R (.pan e176) σ177))) (fun e178 σ179 => R (.pan e178) σ179))))) (fun e180 σ181 => R (.pan e180) σ181)) (
bindO False (vBin none .gtr (x1 1) (.int .i64 0)) fun v182 =>
guardG False v182 true (fun J183 =>
bindO False (vBin none .sub (x1 1) (.int .i64 1)) fun v186 =>
bindO False (vIndex 2 (x1 0) v186) fun v187 =>
bindO False (vLoad true 2 v187 σ133) fun v188 =>
bindO False (vIndex 2 (x1 0) v20) fun v189 =>
bindO False (vLoad true 2 v189 σ133) fun v190 =>
callG (algP W) Pr false (x1 4) [v188, v190] σ133 (fun v191 σ192 =>
bindO False (vBin none .lss v191 (.int .i64 0)) fun v193 =>
bindO False (vUn .not v193) fun v194 =>
J183 (lookE [(84, (.v (x1 4))), (85, (.v (x1 0))), (86, (.v (x1 1))), (87, (.v v186)), (88, (.v v187)), (89, (.v v188)), (90, (.v (x1 0))), (91, (.v v20)), (92, (.v v189)), (93, (.v v190)), (94, (.v v191)), (95, (.v v193)), (96, (.v v194))]) σ192) (fun e195 σ196 => R (.pan e195) σ196)) σ133 (fun y184 σ185 =>
bindO False (vPick v182 (y184 96).pv (.bool false)) fun v197 =>
condW v197 (
callB W 197 [(x1 0), (x1 1), (x1 2), v20, (x1 4)] σ185 (fun v198 σ199 =>
Φ0 (lookP [(0, (x1 0)), (1, v198), (2, (x1 2)), (3, v17), (4, (x1 4)), (10, (x1 10)), (11, (x1 11))]) σ199) (fun e200 σ201 => R (.pan e200) σ201)) (
callB W 198 [(x1 0), (x1 1), (x1 2), v20, (x1 4)] σ185 (fun v202 σ203 =>
bindO False (vExtract v202 0) fun v204 =>
bindO False (vExtract v202 1) fun v205 =>
bindO False (vBin none .sub v204 (x1 1)) fun v206 =>
bindO False (vBin none .sub (x1 2) v204) fun v207 =>
bindO False (vBin none .quo v3 (.int .i64 8)) fun v208 =>
bindO False (vBin none .lss v206 v207) fun v209 =>
condW v209 (
bindO False (vBin none .geq v206 v208) fun v210 =>
callB W 174 [(x1 0), (x1 1), v204, v17, (x1 4)] σ203 (fun v211 σ212 =>
bindO False (vBin none .add v204 (.int .i64 1)) fun v213 =>
Φ0 (lookP [(0, (x1 0)), (1, v213), (2, (x1 2)), (3, v17), (4, (x1 4)), (10, v210), (11, v205)]) σ212) (fun e214 σ215 => R (.pan e214) σ215)) (
bindO False (vBin none .geq v207 v208) fun v216 =>
bindO False (vBin none .add v204 (.int .i64 1)) fun v217 =>
callB W 174 [(x1 0), v217, (x1 2), v17, (x1 4)] σ203 (fun v218 σ219 =>
Φ0 (lookP [(0, (x1 0)), (1, (x1 1)), (2, v204), (3, v17), (4, (x1 4)), (10, v216), (11, v205)]) σ219) (fun e220 σ221 => R (.pan e220) σ221))) (fun e222 σ223 => R (.pan e222) σ223)))))))) (fun e224 σ225 => R (.pan e224) σ225)) (fun e226 σ227 => R (.pan e226) σ227)) (
callB W 194 [(x1 0), (x1 1), (x1 2), (x1 4)] σ2 (fun v228 σ229 =>
bindO False (vExtract v228 0) fun v230 =>
bindO False (vExtract v228 1) fun v231 =>
bindO False (vBin none .eql v231 (.int .i64 2)) fun v232 =>
condW v232 (
callB W 195 [(x1 0), (x1 1), (x1 2), (x1 4)] σ229 (fun v233 σ234 =>
bindO False (vBin none .sub (x1 2) (.int .i64 1)) fun v235 =>
bindO False (vBin none .sub v230 (x1 1)) fun v236 =>
bindO False (vBin none .sub v235 v236) fun v237 =>
guardG False (x1 10) true (fun J238 =>
J238 (lookE [(70, (.v (x1 11)))]) σ234) σ234 (fun y239 σ240 =>
bindO False (vPick (x1 10) (y239 70).pv (.bool false)) fun v241 =>
guardG False v241 true (fun J242 =>
bindO False (vBin none .eql (.int .i64 1) (.int .i64 1)) fun v245 =>
J242 (lookE [(73, (.v (.int .i64 1))), (74, (.v v245))]) σ240) σ240 (fun y243 σ244 =>
bindO False (vPick v241 (y243 74).pv (.bool false)) fun v246 =>
condW v246 (
callB W 196 [(x1 0), (x1 1), (x1 2), (x1 4)] σ244 (fun v247 σ248 =>
condW v247 (
weakW σ (.tuple []) σ248 fun v σ => R (.ret v) σ) (
bindO False (vBin none .gtr (x1 1) (.int .i64 0)) fun v249 =>
guardG False v249 true (fun J250 =>
bindO False (vBin none .sub (x1 1) (.int .i64 1)) fun v253 =>
bindO False (vIndex 2 (x1 0) v253) fun v254 =>
bindO False (vLoad true 2 v254 σ248) fun v255 =>
bindO False (vIndex 2 (x1 0) v237) fun v256 =>
bindO False (vLoad true 2 v256 σ248) fun v257 =>
callG (algP W) Pr false (x1 4) [v255, v257] σ248 (fun v258 σ259 =>
bindO False (vBin none .lss v258 (.int .i64 0)) fun v260 =>
bindO False (vUn .not v260) fun v261 =>
J250 (lookE [(84, (.v (x1 4))), (85, (.v (x1 0))), (86, (.v (x1 1))), (87, (.v v253)), (88, (.v v254)), (89, (.v v255)), (90, (.v (x1 0))), (91, (.v v237)), (92, (.v v256)), (93, (.v v257)), (94, (.v v258)), (95, (.v v260)), (96, (.v v261))]) σ259) (fun e262 σ263 => R (.pan e262) σ263)) σ248 (fun y251 σ252 =>
bindO False (vPick v249 (y251 96).pv (.bool false)) fun v264 =>
condW v264 (
callB W 197 [(x1 0), (x1 1), (x1 2), v237, (x1 4)] σ252 (fun v265 σ266 =>
Φ0 (lookP [(0, (x1 0)), (1, v265), (2, (x1 2)), (3, (x1 3)), (4, (x1 4)), (10, (x1 10)), (11, (x1 11))]) σ266) (fun e267 σ268 => R (.pan e267) σ268)) (
callB W 198 [(x1 0), (x1 1), (x1 2), v237, (x1 4)] σ252 (fun v269 σ270 =>
bindO False (vExtract v269 0) fun v271 =>
bindO False (vExtract v269 1) fun v272 =>
bindO False (vBin none .sub v271 (x1 1)) fun v273 =>
bindO False (vBin none .sub (x1 2) v271) fun v274 =>
bindO False (vBin none .quo v3 (.int .i64 8)) fun v275 =>
bindO False (vBin none .lss v273 v274) fun v276 =>
condW v276 (
bindO False (vBin none .geq v273 v275) fun v277 =>
callB W 174 [(x1 0), (x1 1), v271, (x1 3), (x1 4)] σ270 (fun v278 σ279 =>
bindO False (vBin none .add v271 (.int .i64 1)) fun v280 =>
Φ0 (lookP [(0, (x1 0)), (1, v280), (2, (x1 2)), (3, (x1 3)), (4, (x1 4)), (10, v277), (11, v272)]) σ279) (fun e281 σ282 => R (.pan e281) σ282)) (
bindO False (vBin none .geq v274 v275) fun v283 =>
bindO False (vBin none .add v271 (.int .i64 1)) fun v284 =>
callB W 174 [(x1 0), v284, (x1 2), (x1 3), (x1 4)] σ270 (fun v285 σ286 =>
Φ0 (lookP [(0, (x1 0)), (1, (x1 1)), (2, v271), (3, (x1 3)), (4, (x1 4)), (10, v283), (11, v272)]) σ286) (fun e287 σ288 => R (.pan e287) σ288))) (fun e289 σ290 => R (.pan e289) σ290))))) (fun e291 σ292 => R (.pan e291) σ292)) (
bindO False (vBin none .gtr (x1 1) (.int .i64 0)) fun v293 =>
guardG False v293 true (fun J294 =>
bindO False (vBin none .sub (x1 1) (.int .i64 1)) fun v297 =>
bindO False (vIndex 2 (x1 0) v297) fun v298 =>
bindO False (vLoad true 2 v298 σ244) fun v299 =>
bindO False (vIndex 2 (x1 0) v237) fun v300 =>
bindO False (vLoad true 2 v300 σ244) fun v301 =>
callG (algP W) Pr false (x1 4) [v299, v301] σ244 (fun v302 σ303 =>
bindO False (vBin none .lss v302 (.int .i64 0)) fun v304 =>
bindO False (vUn .not v304) fun v305 =>
J294 (lookE [(84, (.v (x1 4))), (85, (.v (x1 0))), (86, (.v (x1 1))), (87, (.v v297)), (88, (.v v298)), (89, (.v v299)), (90, (.v (x1 0))), (91, (.v v237)), (92, (.v v300)), (93, (.v v301)), (94, (.v v302)), (95, (.v v304)), (96, (.v v305))]) σ303) (fun e306 σ307 => R (.pan e306) σ307)) σ244 (fun y295 σ296 =>
bindO False (vPick v293 (y295 96).pv (.bool false)) fun v308 =>
condW v308 (
callB W 197 [(x1 0), (x1 1), (x1 2), v237, (x1 4)] σ296 (fun v309 σ310 =>
Φ0 (lookP [(0, (x1 0)), (1, v309), (2, (x1 2)), (3, (x1 3)), (4, (x1 4)), (10, (x1 10)), (11, (x1 11))]) σ310) (fun e311 σ312 => R (.pan e311) σ312)) (
callB W 198 [(x1 0), (x1 1), (x1 2), v237, (x1 4)] σ296 (fun v313 σ314 =>
bindO False (vExtract v313 0) fun v315 =>
bindO False (vExtract v313 1) fun v316 =>
bindO False (vBin none .sub v315 (x1 1)) fun v317 =>
bindO False (vBin none .sub (x1 2) v315) fun v318 =>
bindO False (vBin none .quo v3 (.int .i64 8)) fun v319 =>
bindO False (vBin none .lss v317 v318) fun v320 =>
condW v320 (
bindO False (vBin none .geq v317 v319) fun v321 =>
callB W 174 [(x1 0), (x1 1), v315, (x1 3), (x1 4)] σ314 (fun v322 σ323 =>
bindO False (vBin none .add v315 (.int .i64 1)) fun v324 =>
Φ0 (lookP [(0, (x1 0)), (1, v324), (2, (x1 2)), (3, (x1 3)), (4, (x1 4)), (10, v321), (11, v316)]) σ323) (fun e325 σ326 => R (.pan e325) σ326)) (
bindO False (vBin none .geq v318 v319) fun v327 =>
bindO False (vBin none .add v315 (.int .i64 1)) fun v328 =>
callB W 174 [(x1 0), v328, (x1 2), (x1 3), (x1 4)] σ314 (fun v329 σ330 =>
Φ0 (lookP [(0, (x1 0)), (1, (x1 1)), (2, v315), (3, (x1 3)), (4, (x1 4)), (10, v327), (11, v316)]) σ330) (fun e331 σ332 => R (.pan e331) σ332))) (fun e333 σ334 => R (.pan e333) σ334))))))) (fun e335 σ336 => R (.pan e335) σ336)) (
guardG False (x1 10) true (fun J337 =>
J337 (lookE [(70, (.v (x1 11)))]) σ229) σ229 (fun y338 σ339 =>
bindO False (vPick (x1 10) (y338 70).pv (.bool false)) fun v340 =>
guardG False v340 true (fun J341 =>
bindO False (vBin none .eql v231 (.int .i64 1)) fun v344 =>
J341 (lookE [(73, (.v v231)), (74, (.v v344))]) σ339) σ339 (fun y342 σ343 =>
bindO False (vPick v340 (y342 74).pv (.bool false)) fun v345 =>
condW v345 (
callB W 196 [(x1 0), (x1 1), (x1 2), (x1 4)] σ343 (fun v346 σ347 =>
condW v346 (
weakW σ (.tuple []) σ347 fun v σ => R (.ret v) σ) (
bindO False (vBin none .gtr (x1 1) (.int .i64 0)) fun v348 =>
guardG False v348 true (fun J349 =>
bindO False (vBin none .sub (x1 1) (.int .i64 1)) fun v352 =>
bindO False (vIndex 2 (x1 0) v352) fun v353 =>
bindO False (vLoad true 2 v353 σ347) fun v354 =>
bindO False (vIndex 2 (x1 0) v230) fun v355 =>
bindO False (vLoad true 2 v355 σ347) fun v356 =>
callG (algP W) Pr false (x1 4) [v354, v356] σ347 (fun v357 σ358 =>
bindO False (vBin none .lss v357 (.int .i64 0)) fun v359 =>
bindO False (vUn .not v359) fun v360 =>
J349 (lookE [(84, (.v (x1 4))), (85, (.v (x1 0))), (86, (.v (x1 1))), (87, (.v v352)), (88, (.v v353)), (89, (.v v354)), (90, (.v (x1 0))), (91, (.v v230)), (92, (.v v355)), (93, (.v v356)), (94, (.v v357)), (95, (.v v359)), (96, (.v v360))]) σ358) (fun e361 σ362 => R (.pan e361) σ362)) σ347 (fun y350 σ351 =>
bindO False (vPick v348 (y350 96).pv (.bool false)) fun v363 =>
condW v363 (
callB W 197 [(x1 0), (x1 1), (x1 2), v230, (x1 4)] σ351 (fun v364 σ365 =>
Φ0 (lookP [(0, (x1 0)), (1, v364), (2, (x1 2)), (3, (x1 3)), (4, (x1 4)), (10, (x1 10)), (11, (x1 11))]) σ365) (fun e366 σ367 => R (.pan e366) σ367)) (
callB W 198 [(x1 0), (x1 1), (x1 2), v230, (x1 4)] σ351 (fun v368 σ369 =>
bindO False (vExtract v368 0) fun v370 =>
bindO False (vExtract v368 1) fun v371 =>
bindO False (vBin none .sub v370 (x1 1)) fun v372 =>
bindO False (vBin none .sub (x1 2) v370) fun v373 =>
bindO False (vBin none .quo v3 (.int .i64 8)) fun v374 =>
bindO False (vBin none .lss v372 v373) fun v375 =>
condW v375 (
bindO False (vBin none .geq v372 v374) fun v376 =>
callB W 174 [(x1 0), (x1 1), v370, (x1 3), (x1 4)] σ369 (fun v377 σ378 =>
bindO False (vBin none .add v370 (.int .i64 1)) fun v379 =>
Φ0 (lookP [(0, (x1 0)), (1, v379), (2, (x1 2)), (3, (x1 3)), (4, (x1 4)), (10, v376), (11, v371)]) σ378) (fun e380 σ381 => R (.pan e380) σ381)) (
bindO False (vBin none .geq v373 v374) fun v382 =>
bindO False (vBin none .add v370 (.int .i64 1)) fun v383 =>
callB W 174 [(x1 0), v383, (x1 2), (x1 3), (x1 4)] σ369 (fun v384 σ385 =>
Φ0 (lookP [(0, (x1 0)), (1, (x1 1)), (2, v370), (3, (x1 3)), (4, (x1 4)), (10, v382), (11, v371)]) σ385) (fun e386 σ387 => R (.pan e386) σ387))) (fun e388 σ389 => R (.pan e388) σ389))))) (fun e390 σ391 => R (.pan e390) σ391)) (
bindO False (vBin none .gtr (x1 1) (.int .i64 0)) fun v392 =>
guardG False v392 true (fun J393 =>
bindO False (vBin none .sub (x1 1) (.int .i64 1)) fun v396 =>
bindO False (vIndex 2 (x1 0) v396) fun v397 =>
bindO False (vLoad true 2 v397 σ343) fun v398 =>
bindO False (vIndex 2 (x1 0) v230) fun v399 =>
bindO False (vLoad true 2 v399 σ343) fun v400 =>
callG (algP W) Pr false (x1 4) [v398, v400] σ343 (fun v401 σ402 =>
bindO False (vBin none .lss v401 (.int .i64 0)) fun v403 =>
bindO False (vUn .not v403) fun v404 =>
J393 (lookE [(84, (.v (x1 4))), (85, (.v (x1 0))), (86, (.v (x1 1))), (87, (.v v396)), (88, (.v v397)), (89, (.v v398)), (90, (.v (x1 0))), (91, (.v v230)), (92, (.v v399)), (93, (.v v400)), (94, (.v v401)), (95, (.v v403)), (96, (.v v404))]) σ402) (fun e405 σ406 => R (.pan e405) σ406)) σ343 (fun y394 σ395 =>
bindO False (vPick v392 (y394 96).pv (.bool false)) fun v407 =>
condW v407 (
callB W 197 [(x1 0), (x1 1), (x1 2), v230, (x1 4)] σ395 (fun v408 σ409 =>
Φ0 (lookP [(0, (x1 0)), (1, v408), (2, (x1 2)), (3, (x1 3)), (4, (x1 4)), (10, (x1 10)), (11, (x1 11))]) σ409) (fun e410 σ411 => R (.pan e410) σ411)) (
callB W 198 [(x1 0), (x1 1), (x1 2), v230, (x1 4)] σ395 (fun v412 σ413 =>
bindO False (vExtract v412 0) fun v414 =>
bindO False (vExtract v412 1) fun v415 =>
bindO False (vBin none .sub v414 (x1 1)) fun v416 =>
bindO False (vBin none .sub (x1 2) v414) fun v417 =>
bindO False (vBin none .quo v3 (.int .i64 8)) fun v418 =>
bindO False (vBin none .lss v416 v417) fun v419 =>
condW v419 (
bindO False (vBin none .geq v416 v418) fun v420 =>
callB W 174 [(x1 0), (x1 1), v414, (x1 3), (x1 4)] σ413 (fun v421 σ422 =>
bindO False (vBin none .add v414 (.int .i64 1)) fun v423 =>
Φ0 (lookP [(0, (x1 0)), (1, v423), (2, (x1 2)), (3, (x1 3)), (4, (x1 4)), (10, v420), (11, v415)]) σ422) (fun e424 σ425 => R (.pan e424) σ425)) (
bindO False (vBin none .geq v417 v418) fun v426 =>
bindO False (vBin none .add v414 (.int .i64 1)) fun v427 =>
callB W 174 [(x1 0), v427, (x1 2), (x1 3), (x1 4)] σ413 (fun v428 σ429 =>
Φ0 (lookP [(0, (x1 0)), (1, (x1 1)), (2, v414), (3, (x1 3)), (4, (x1 4)), (10, v426), (11, v415)]) σ429) (fun e430 σ431 => R (.pan e430) σ431))) (fun e432 σ433 => R (.pan e432) σ433)))))))) (fun e434 σ435 => R (.pan e434) σ435))))) (lookP [(0, a0), (1, a1), (2, a2), (3, a3), (4, a4), (10, (.bool true)), (11, (.bool true))]) σ

theorem fn174_eq (W : CallP) (a0 a1 a2 a3 a4 : PV) (σ : St) (R : Res → St → Prop) : bodyC (algP W) Tryz.prog annF 174 [a0, a1, a2, a3, a4] σ R = fn174 Tryz.prog W a0 a1 a2 a3 a4 σ R := by kernel_rfl

/-- math/bits.Len -/
def fn175 (Pr : Program) (W : CallP) (a0 : PV) (σ : St) (R : Res → St → Prop) : Prop :=
condW (.bool false) (
bindO False (vConv .u32 a0) fun v0 =>
callB W 199 [v0] σ (fun v1 σ2 =>
weakW σ v1 σ2 fun v σ => R (.ret v) σ) (fun e3 σ4 => R (.pan e3) σ4)) (
callB W 200 [a0] σ (fun v5 σ6 =>
weakW σ v5 σ6 fun v σ => R (.ret v) σ) (fun e7 σ8 => R (.pan e7) σ8))

theorem fn175_eq (W : CallP) (a0 : PV) (σ : St) (R : Res → St → Prop) : bodyC (algP W) Tryz.prog annF 175 [a0] σ R = fn175 Tryz.prog W a0 σ R := by kernel_rfl

/-- slices.insertionSortCmpFunc[environ/hyper.Bind] -/
def fn191 (Pr : Program) (W : CallP) (a0 a1 a2 a3 : PV) (σ : St) (R : Res → St → Prop) : Prop :=
bindO False (vBin none .add a1 (.int .i64 1)) fun v0 =>
Lfp σ (fun Φ1 x2 σ3 =>
bindO False (vBin none .lss (x2 8) (x2 2)) fun v4 =>
condW v4 (
Lfp σ (fun Φ5 x6 σ7 =>
bindO False (vBin none .gtr (x6 9) (x6 1)) fun v8 =>
guardG False v8 true (fun J9 =>
bindO False (vIndex 2 (x6 0) (x6 9)) fun v12 =>
bindO False (vLoad true 2 v12 σ7) fun v13 =>
bindO False (vBin none .sub (x6 9) (.int .i64 1)) fun v14 =>
bindO False (vIndex 2 (x6 0) v14) fun v15 =>
bindO False (vLoad true 2 v15 σ7) fun v16 =>
callG (algP W) Pr false (x6 3) [v13, v16] σ7 (fun v17 σ18 =>
bindO False (vBin none .lss v17 (.int .i64 0)) fun v19 =>
J9 (lookE [(22, (.v (x6 3))), (23, (.v (x6 0))), (24, (.v (x6 9))), (25, (.v v12)), (26, (.v v13)), (27, (.v (x6 0))), (28, (.v (x6 9))), (29, (.v v14)), (30, (.v v15)), (31, (.v v16)), (32, (.v v17)), (33, (.v v19))]) σ18) (fun e20 σ21 => R (.pan e20) σ21)) σ7 (fun y10 σ11 =>
bindO False (vPick v8 (y10 33).pv (.bool false)) fun v22 =>
condW v22 (
bindO False (vBin none .sub (x6 9) (.int .i64 1)) fun v23 =>
bindO False (vBin none .sub (x6 9) (.int .i64 1)) fun v24 =>
bindO False (vIndex 2 (x6 0) v24) fun v25 =>
bindO False (vLoad true 2 v25 σ11) fun v26 =>
bindO False (vIndex 2 (x6 0) (x6 9)) fun v27 =>
bindO False (vLoad true 2 v27 σ11) fun v28 =>
bindO False (vIndex 2 (x6 0) (x6 9)) fun v29 =>
bindO False (vStore 2 v29 v26 σ11) fun σ30 =>
bindO False (vIndex 2 (x6 0) v23) fun v31 =>
bindO False (vStore 2 v31 v28 σ30) fun σ32 =>
bindO False (vBin none .sub (x6 9) (.int .i64 1)) fun v33 =>
Φ5 (lookP [(0, (x6 0)), (1, (x6 1)), (2, (x6 2)), (3, (x6 3)), (8, (x6 8)), (9, v33)]) σ32) (
bindO False (vBin none .add (x6 8) (.int .i64 1)) fun v34 =>
Φ1 (lookP [(0, (x6 0)), (1, (x6 1)), (2, (x6 2)), (3, (x6 3)), (8, v34)]) σ11))) (lookP [(0, (x2 0)), (1, (x2 1)), (2, (x2 2)), (3, (x2 3)), (8, (x2 8)), (9, (x2 8))]) σ3) (
weakW σ (.tuple []) σ3 fun v σ => R (.ret v) σ)) (lookP [(0, a0), (1, a1), (2, a2), (3, a3), (8, v0)]) σ

theorem fn191_eq (W : CallP) (a0 a1 a2 a3 : PV) (σ : St) (R : Res → St → Prop) : bodyC (algP W) Tryz.prog annF 191 [a0, a1, a2, a3] σ R = fn191 Tryz.prog W a0 a1 a2 a3 σ R := by kernel_rfl

end Go.Proofs.YtiniifbmeobmgaaGreatDoor
