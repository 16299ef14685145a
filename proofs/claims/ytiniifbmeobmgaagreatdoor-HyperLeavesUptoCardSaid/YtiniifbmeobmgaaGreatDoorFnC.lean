/- The bodies of some functions, as the abstract machine reads them (printed by wip/tools/Pr.lean), each held against the program's form by the kernel. -/
import Derived.KernelRfl
import Derived.Test.YtiniifbmeobmgaaGreatDoorAnn
import Derived.Test.YtiniifbmeobmgaaGreatDoorProg
set_option linter.unusedVariables false
namespace Go.Proofs.YtiniifbmeobmgaaGreatDoor
open Go Go.Abs

/-- environ/hyper.Produces -/
def fn18 (Pr : Program) (W : CallP) (a0 a1 a2 : PV) (σ : St) (R : Res → St → Prop) : Prop :=
bindO False (opC.vBoxAny a0) fun z0 =>
bindO False (opC.vBoxAny a1) fun z1 =>
if 0 < z1.1 then newW z1.1 z1.2 σ fun p2 σ3 =>
bindO False (vPart true 2 z0.2 0) fun v4 =>
callB W 15 [v4] σ3 (fun v5 σ6 =>
bindO False (vBin none .neq v5 (.int .i64 0)) fun v7 =>
condW v7 (
weakW σ (.tuple [(.bool false), v5]) σ6 fun v σ => R (.ret v) σ) (
callB W 71 [a2] σ6 (fun v8 σ9 =>
bindO False (vExtract v8 0) fun v10 =>
bindO False (vExtract v8 1) fun v11 =>
bindO False (vPart false 1 z0.2 0) fun v12 =>
callB W 35 [v12, (.func 72 [p2])] σ9 (fun v13 σ14 =>
bindO False (vUn .not v13) fun v15 =>
condW v15 (
weakW σ (.tuple [(.bool false), (.int .i64 4)]) σ14 fun v σ => R (.ret v) σ) (
bindO False (vUn .not v11) fun v16 =>
condW v16 (
weakW σ (.tuple [(.bool false), (.int .i64 2)]) σ14 fun v σ => R (.ret v) σ) (
bindO False (vLen .sl v10 σ14) fun v17 =>
bindO False (vBin none .gtr v17 (.int .i64 200)) fun v18 =>
condW v18 (
weakW σ (.tuple [(.bool false), (.int .i64 3)]) σ14 fun v σ => R (.ret v) σ) (
bindO False (vPart true 2 z0.2 0) fun v19 =>
callB W 73 [v19, v10] σ14 (fun v20 σ21 =>
bindO False (vNil v20) fun v22 =>
bindO False (vField 4 v22) fun v23 =>
bindO False (vLoad false 1 v23 σ21) fun v24 =>
bindO False (vNil v20) fun v25 =>
bindO False (vField 2 v25) fun v26 =>
bindO False (vLoad false 1 v26 σ21) fun v27 =>
bindO False (vLoad false 1 p2 σ21) fun v28 =>
bindO False (vLookup .str (.int .i64 0) false v27 v28 σ21) fun v29 =>
bindO False (vIndex 1 v24 v29) fun v30 =>
bindO False (vLoad false 1 v30 σ21) fun v31 =>
bindO False (vIndex 1 v31 (.int .i64 0)) fun v32 =>
bindO False (vLoad false 1 v32 σ21) fun v33 =>
bindO False (vLen .sl v10 σ21) fun v34 =>
bindO False (vIndex 1 v33 v34) fun v35 =>
bindO False (vLoad false 1 v35 σ21) fun v36 =>
weakW σ (.tuple [v36, (.int .i64 0)]) σ21 fun v σ => R (.ret v) σ) (fun e37 σ38 => R (.pan e37) σ38))))) (fun e39 σ40 => R (.pan e39) σ40)) (fun e41 σ42 => R (.pan e41) σ42))) (fun e43 σ44 => R (.pan e43) σ44) else False

theorem fn18_eq (W : CallP) (a0 a1 a2 : PV) (σ : St) (R : Res → St → Prop) : bodyC (algP W) Tryz.prog annF 18 [a0, a1, a2] σ R = fn18 Tryz.prog W a0 a1 a2 σ R := by kernel_rfl

/-- environ/hyper.Produces$1 -/
def fn72 (Pr : Program) (W : CallP) (a0 a1 : PV) (σ : St) (R : Res → St → Prop) : Prop :=
bindO False (opC.vBoxAny a0) fun z0 =>
bindO False (vPart false 1 z0.2 0) fun v1 =>
bindO False (vLoad false 1 a1 σ) fun v2 =>
bindO False (vBin none .eql v1 v2) fun v3 =>
weakW σ v3 σ fun v σ => R (.ret v) σ

theorem fn72_eq (W : CallP) (a0 a1 : PV) (σ : St) (R : Res → St → Prop) : bodyC (algP W) Tryz.prog annF 72 [a0, a1] σ R = fn72 Tryz.prog W a0 a1 σ R := by kernel_rfl

/-- environ/hyper.tabulate -/
def fn73 (Pr : Program) (W : CallP) (a0 a1 : PV) (σ : St) (R : Res → St → Prop) : Prop :=
bindO False (opC.vBoxAny a0) fun z0 =>
((bindO False (vPart true 2 z0.2 0) fun v1 =>
bindO False (vPart false 1 z0.2 0) fun v2 =>
bindO False (vLen .sl v2 σ) fun v3 =>
newMapW σ fun v4 σ5 =>
bindS (vMakeSl 1 24 (.list .nil []) v3 v3 σ5) fun v6 σ7 =>
bindO False (vBuild [(.list .nil []), (.list .nil []), .nilmap, (.list .nil []), (.list .nil [])] [(0, 2, v1), (2, 1, v4), (3, 1, a1), (4, 1, v6)]) fun v8 =>
bindO False (opC.vBoxAny (.agg v8)) fun z9 =>
if 0 < z9.1 then newW z9.1 z9.2 σ7 fun p10 σ11 =>
bindO False (vPart false 1 z0.2 0) fun v12 =>
bindO False (vLen .sl v12 σ11) fun v13 =>
Lfp σ (fun Φ14 x15 σ16 =>
bindO False (vBin none .lss (x15 23) (x15 22)) fun v17 =>
condW v17 (
bindO False (vIndex 2 (x15 21) (x15 23)) fun v18 =>
bindO False (vLoad true 2 v18 σ16) fun v19 =>
bindO False (vPut 2 (.agg [(.str []), (.list .nil [])]) 0 v19) fun z20 =>
bindO False (vNil (x15 5)) fun v21 =>
bindO False (vField 2 v21) fun v22 =>
bindO False (vLoad false 1 v22 σ16) fun v23 =>
bindO False (vPart false 1 z20 0) fun v24 =>
bindO False (vMapSet .str v23 v24 (x15 23) σ16) fun σ25 =>
bindO False (vNil (x15 5)) fun v26 =>
bindO False (vField 4 v26) fun v27 =>
bindO False (vLoad false 1 v27 σ25) fun v28 =>
bindO False (vLen .sl (x15 1) σ25) fun v29 =>
bindO False (vBin none .add v29 (.int .i64 1)) fun v30 =>
bindS (vMakeSl 1 24 (.list .nil []) v30 v30 σ25) fun v31 σ32 =>
bindO False (vIndex 1 v28 (x15 23)) fun v33 =>
bindO False (vStore 1 v33 v31 σ32) fun σ34 =>
bindO False (vNil (x15 5)) fun v35 =>
bindO False (vField 4 v35) fun v36 =>
bindO False (vLoad false 1 v36 σ34) fun v37 =>
bindO False (vIndex 1 v37 (x15 23)) fun v38 =>
bindO False (vLoad false 1 v38 σ34) fun v39 =>
bindO False (vLen .sl v39 σ34) fun v40 =>
Lfp σ (fun Φ41 x42 σ43 =>
bindO False (vBin none .lss (x42 53) (x42 52)) fun v44 =>
condW v44 (
bindO False (vNil (x42 5)) fun v45 =>
bindO False (vField 4 v45) fun v46 =>
bindO False (vLoad false 1 v46 σ43) fun v47 =>
bindO False (vIndex 1 v47 (x42 6)) fun v48 =>
bindO False (vLoad false 1 v48 σ43) fun v49 =>
bindO False (vLen .sl (x42 1) σ43) fun v50 =>
bindO False (vBin none .add v50 (.int .i64 1)) fun v51 =>
bindO False (vBin none .sub v51 (x42 53)) fun v52 =>
bindS (vMakeSl 1 1 (.bool false) v52 v52 σ43) fun v53 σ54 =>
bindO False (vIndex 1 v49 (x42 53)) fun v55 =>
bindO False (vStore 1 v55 v53 σ54) fun σ56 =>
bindO False (vBin none .add (x42 53) (.int .i64 1)) fun v57 =>
Φ41 (lookP [(1, (x42 1)), (5, (x42 5)), (6, (x42 6)), (21, (x42 21)), (22, (x42 22)), (23, (x42 23)), (52, (x42 52)), (53, v57)]) σ56) (
bindO False (vBin none .add (x42 23) (.int .i64 1)) fun v58 =>
Φ14 (lookP [(1, (x42 1)), (5, (x42 5)), (21, (x42 21)), (22, (x42 22)), (23, v58)]) σ43)) (lookP [(1, (x15 1)), (5, (x15 5)), (6, (x15 23)), (21, (x15 21)), (22, (x15 22)), (23, (x15 23)), (52, v40), (53, (.int .i64 0))]) σ34) (
bindO False (vLen .sl (x15 1) σ16) fun v59 =>
bindO False (vBin none .add v59 (.int .i64 1)) fun v60 =>
Lfp σ (fun Φ61 x62 σ63 =>
bindO False (vBin none .lss (x62 76) (x62 75)) fun v64 =>
condW v64 (
Lfp σ (fun Φ65 x66 σ67 =>
bindO False (vBin none .add (x66 10) (x66 9)) fun v68 =>
bindO False (vLen .sl (x66 1) σ67) fun v69 =>
bindO False (vBin none .leq v68 v69) fun v70 =>
condW v70 (
Lfp σ (fun Φ71 x72 σ73 =>
callB W 134 [(x72 5), (x72 10), (x72 9)] σ73 (fun v74 σ75 =>
condW v74 (
Φ71 (lookP [(1, (x72 1)), (5, (x72 5)), (9, (x72 9)), (10, (x72 10)), (75, (x72 75)), (76, (x72 76))]) σ75) (
bindO False (vBin none .add (x72 10) (.int .i64 1)) fun v76 =>
Φ65 (lookP [(1, (x72 1)), (5, (x72 5)), (9, (x72 9)), (10, v76), (75, (x72 75)), (76, (x72 76))]) σ75)) (fun e77 σ78 => R (.pan e77) σ78)) (lookP [(1, (x66 1)), (5, (x66 5)), (9, (x66 9)), (10, (x66 10)), (75, (x66 75)), (76, (x66 76))]) σ67) (
bindO False (vBin none .add (x66 76) (.int .i64 1)) fun v79 =>
Φ61 (lookP [(1, (x66 1)), (5, (x66 5)), (75, (x66 75)), (76, v79)]) σ67)) (lookP [(1, (x62 1)), (5, (x62 5)), (9, (x62 76)), (10, (.int .i64 0)), (75, (x62 75)), (76, (x62 76))]) σ63) (
weakW σ (x62 5) σ63 fun v σ => R (.ret v) σ)) (lookP [(1, (x15 1)), (5, (x15 5)), (75, v60), (76, (.int .i64 0))]) σ16)) (lookP [(1, a1), (5, p10), (21, v12), (22, v13), (23, (.int .i64 0))]) σ11 else False) ∧ (bindO False (vPart true 2 z0.2 0) fun v80 =>
bindO False (vPart false 1 z0.2 0) fun v81 =>
bindO False (vLen .sl v81 σ) fun v82 =>
bindS (vMakeSl 1 24 (.list .nil []) v82 v82 σ) fun v83 σ84 =>
newMapW σ84 fun v85 σ86 =>
bindO False (vBuild [(.list .nil []), (.list .nil []), .nilmap, (.list .nil []), (.list .nil [])] [(0, 2, v80), (2, 1, v85), (3, 1, a1), (4, 1, v83)]) fun v87 =>
bindO False (opC.vBoxAny (.agg v87)) fun z88 =>
if 0 < z88.1 then newW z88.1 z88.2 σ86 fun p89 σ90 =>
bindO False (vPart false 1 z0.2 0) fun v91 =>
bindO False (vLen .sl v91 σ90) fun v92 =>
Lfp σ (fun Φ93 x94 σ95 =>
bindO False (vBin none .lss (x94 23) (x94 22)) fun v96 =>
condW v96 (
bindO False (vIndex 2 (x94 21) (x94 23)) fun v97 =>
bindO False (vLoad true 2 v97 σ95) fun v98 =>
bindO False (vPut 2 (.agg [(.str []), (.list .nil [])]) 0 v98) fun z99 =>
bindO False (vNil (x94 5)) fun v100 =>
bindO False (vField 2 v100) fun v101 =>
bindO False (vLoad false 1 v101 σ95) fun v102 =>
bindO False (vPart false 1 z99 0) fun v103 =>
bindO False (vMapSet .str v102 v103 (x94 23) σ95) fun σ104 =>
bindO False (vNil (x94 5)) fun v105 =>
bindO False (vField 4 v105) fun v106 =>
bindO False (vLoad false 1 v106 σ104) fun v107 =>
bindO False (vLen .sl (x94 1) σ104) fun v108 =>
bindO False (vBin none .add v108 (.int .i64 1)) fun v109 =>
bindS (vMakeSl 1 24 (.list .nil []) v109 v109 σ104) fun v110 σ111 =>
bindO False (vIndex 1 v107 (x94 23)) fun v112 =>
bindO False (vStore 1 v112 v110 σ111) fun σ113 =>
bindO False (vNil (x94 5)) fun v114 =>
bindO False (vField 4 v114) fun v115 =>
bindO False (vLoad false 1 v115 σ113) fun v116 =>
bindO False (vIndex 1 v116 (x94 23)) fun v117 =>
bindO False (vLoad false 1 v117 σ113) fun v118 =>
bindO False (vLen .sl v118 σ113) fun v119 =>
Lfp σ (fun Φ120 x121 σ122 =>
bindO False (vBin none .lss (x121 53) (x121 52)) fun v123 =>
condW v123 (
bindO False (vNil (x121 5)) fun v124 =>
bindO False (vField 4 v124) fun v125 =>
bindO False (vLoad false 1 v125 σ122) fun v126 =>
bindO False (vIndex 1 v126 (x121 6)) fun v127 =>
bindO False (vLoad false 1 v127 σ122) fun v128 =>
bindO False (vLen .sl (x121 1) σ122) fun v129 =>
bindO False (vBin none .add v129 (.int .i64 1)) fun v130 =>
bindO False (vBin none .sub v130 (x121 53)) fun v131 =>
bindS (vMakeSl 1 1 (.bool false) v131 v131 σ122) fun v132 σ133 =>
bindO False (vIndex 1 v128 (x121 53)) fun v134 =>
bindO False (vStore 1 v134 v132 σ133) fun σ135 =>
bindO False (vBin none .add (x121 53) (.int .i64 1)) fun v136 =>
Φ120 (lookP [(1, (x121 1)), (5, (x121 5)), (6, (x121 6)), (21, (x121 21)), (22, (x121 22)), (23, (x121 23)), (52, (x121 52)), (53, v136)]) σ135) (
bindO False (vBin none .add (x121 23) (.int .i64 1)) fun v137 =>
Φ93 (lookP [(1, (x121 1)), (5, (x121 5)), (21, (x121 21)), (22, (x121 22)), (23, v137)]) σ122)) (lookP [(1, (x94 1)), (5, (x94 5)), (6, (x94 23)), (21, (x94 21)), (22, (x94 22)), (23, (x94 23)), (52, v119), (53, (.int .i64 0))]) σ113) (
bindO False (vLen .sl (x94 1) σ95) fun v138 =>
bindO False (vBin none .add v138 (.int .i64 1)) fun v139 =>
Lfp σ (fun Φ140 x141 σ142 =>
bindO False (vBin none .lss (x141 76) (x141 75)) fun v143 =>
condW v143 (
Lfp σ (fun Φ144 x145 σ146 =>
bindO False (vBin none .add (x145 10) (x145 9)) fun v147 =>
bindO False (vLen .sl (x145 1) σ146) fun v148 =>
bindO False (vBin none .leq v147 v148) fun v149 =>
condW v149 (
Lfp σ (fun Φ150 x151 σ152 =>
callB W 134 [(x151 5), (x151 10), (x151 9)] σ152 (fun v153 σ154 =>
condW v153 (
Φ150 (lookP [(1, (x151 1)), (5, (x151 5)), (9, (x151 9)), (10, (x151 10)), (75, (x151 75)), (76, (x151 76))]) σ154) (
bindO False (vBin none .add (x151 10) (.int .i64 1)) fun v155 =>
Φ144 (lookP [(1, (x151 1)), (5, (x151 5)), (9, (x151 9)), (10, v155), (75, (x151 75)), (76, (x151 76))]) σ154)) (fun e156 σ157 => R (.pan e156) σ157)) (lookP [(1, (x145 1)), (5, (x145 5)), (9, (x145 9)), (10, (x145 10)), (75, (x145 75)), (76, (x145 76))]) σ146) (
bindO False (vBin none .add (x145 76) (.int .i64 1)) fun v158 =>
Φ140 (lookP [(1, (x145 1)), (5, (x145 5)), (75, (x145 75)), (76, v158)]) σ146)) (lookP [(1, (x141 1)), (5, (x141 5)), (9, (x141 76)), (10, (.int .i64 0)), (75, (x141 75)), (76, (x141 76))]) σ142) (
weakW σ (x141 5) σ142 fun v σ => R (.ret v) σ)) (lookP [(1, (x94 1)), (5, (x94 5)), (75, v139), (76, (.int .i64 0))]) σ95)) (lookP [(1, a1), (5, p89), (21, v91), (22, v92), (23, (.int .i64 0))]) σ90 else False))

theorem fn73_eq (W : CallP) (a0 a1 : PV) (σ : St) (R : Res → St → Prop) : bodyC (algP W) Tryz.prog annF 73 [a0, a1] σ R = fn73 Tryz.prog W a0 a1 σ R := by kernel_rfl

/-- (*environ/hyper.table).grow -/
def fn134 (Pr : Program) (W : CallP) (a0 a1 a2 : PV) (σ : St) (R : Res → St → Prop) : Prop :=
bindO False (opC.vBoxAny a0) fun z0 =>
if 0 < z0.1 then newW z0.1 z0.2 σ fun p1 σ2 =>
bindO False (opC.vBoxAny a1) fun z3 =>
if 0 < z3.1 then newW z3.1 z3.2 σ2 fun p4 σ5 =>
bindO False (opC.vBoxAny a2) fun z6 =>
if 0 < z6.1 then newW z6.1 z6.2 σ5 fun p7 σ8 =>
bindO False (vLoad false 1 p1 σ8) fun v9 =>
bindO False (vNil v9) fun v10 =>
bindO False (vField 0 v10) fun v11 =>
bindO False (vField 0 v11) fun v12 =>
bindO False (vLoad false 1 v12 σ8) fun v13 =>
bindO False (vLen .sl v13 σ8) fun v14 =>
Lfp σ (fun Φ15 x16 σ17 =>
bindO False (vBin none .lss (x16 16) (x16 15)) fun v18 =>
condW v18 (
bindO False (vIndex 2 (x16 14) (x16 16)) fun v19 =>
bindO False (vLoad true 2 v19 σ17) fun v20 =>
bindO False (vPut 2 (.agg [(.str []), (.list .nil [])]) 0 v20) fun z21 =>
bindO False (vLoad false 1 (x16 3) σ17) fun v22 =>
bindO False (vNil v22) fun v23 =>
bindO False (vField 4 v23) fun v24 =>
bindO False (vLoad false 1 v24 σ17) fun v25 =>
bindO False (vIndex 1 v25 (x16 16)) fun v26 =>
bindO False (vLoad false 1 v26 σ17) fun v27 =>
bindO False (vLoad false 1 (x16 4) σ17) fun v28 =>
bindO False (vIndex 1 v27 v28) fun v29 =>
bindO False (vLoad false 1 v29 σ17) fun v30 =>
bindO False (vLoad false 1 (x16 5) σ17) fun v31 =>
bindO False (vIndex 1 v30 v31) fun v32 =>
bindO False (vLoad false 1 v32 σ17) fun v33 =>
bindO False (vUn .not v33) fun v34 =>
guardG False v34 true (fun J35 =>
bindO False (vPart false 1 z21 1) fun v38 =>
callB W 51 [v38, (.func 167 [(x16 3), (x16 4), (x16 5)])] σ17 (fun v39 σ40 =>
J35 (lookE [(36, (.loc 9 1)), (37, (.v v38)), (38, (.v (.func 167 [(x16 3), (x16 4), (x16 5)]))), (39, (.v v39))]) σ40) (fun e41 σ42 => R (.pan e41) σ42)) σ17 (fun y36 σ37 =>
bindO False (vPick v34 (y36 39).pv (.bool false)) fun v43 =>
condW v43 (
bindO False (vLoad false 1 (x16 3) σ37) fun v44 =>
bindO False (vNil v44) fun v45 =>
bindO False (vField 4 v45) fun v46 =>
bindO False (vLoad false 1 v46 σ37) fun v47 =>
bindO False (vIndex 1 v47 (x16 16)) fun v48 =>
bindO False (vLoad false 1 v48 σ37) fun v49 =>
bindO False (vLoad false 1 (x16 4) σ37) fun v50 =>
bindO False (vIndex 1 v49 v50) fun v51 =>
bindO False (vLoad false 1 v51 σ37) fun v52 =>
bindO False (vLoad false 1 (x16 5) σ37) fun v53 =>
bindO False (vIndex 1 v52 v53) fun v54 =>
bindO False (vStore 1 v54 (.bool true) σ37) fun σ55 =>
bindO False (vBin none .add (x16 16) (.int .i64 1)) fun v56 =>
Φ15 (lookP [(3, (x16 3)), (4, (x16 4)), (5, (x16 5)), (7, (.bool true)), (14, (x16 14)), (15, (x16 15)), (16, v56)]) σ55) (
bindO False (vBin none .add (x16 16) (.int .i64 1)) fun v57 =>
Φ15 (lookP [(3, (x16 3)), (4, (x16 4)), (5, (x16 5)), (7, (x16 7)), (14, (x16 14)), (15, (x16 15)), (16, v57)]) σ37))) (
weakW σ (x16 7) σ17 fun v σ => R (.ret v) σ)) (lookP [(3, p1), (4, p4), (5, p7), (7, (.bool false)), (14, v13), (15, v14), (16, (.int .i64 0))]) σ8 else False else False else False

theorem fn134_eq (W : CallP) (a0 a1 a2 : PV) (σ : St) (R : Res → St → Prop) : bodyC (algP W) Tryz.prog annF 134 [a0, a1, a2] σ R = fn134 Tryz.prog W a0 a1 a2 σ R := by kernel_rfl

/-- (*environ/hyper.table).produces -/
def fn93 (Pr : Program) (W : CallP) (a0 a1 a2 a3 : PV) (σ : St) (R : Res → St → Prop) : Prop :=
bindO False (opC.vBoxAny a1) fun z0 =>
bindO False (vPart false 1 z0.2 0) fun v1 =>
condW v1 (
bindO False (vNil a0) fun v2 =>
bindO False (vField 4 v2) fun v3 =>
bindO False (vLoad false 1 v3 σ) fun v4 =>
bindO False (vNil a0) fun v5 =>
bindO False (vField 2 v5) fun v6 =>
bindO False (vLoad false 1 v6 σ) fun v7 =>
bindO False (vPart false 1 z0.2 1) fun v8 =>
callC W 64 [v8] σ fun v9 _ =>
bindO False (vLookup .str (.int .i64 0) false v7 v9 σ) fun v10 =>
bindO False (vIndex 1 v4 v10) fun v11 =>
bindO False (vLoad false 1 v11 σ) fun v12 =>
bindO False (vIndex 1 v12 a2) fun v13 =>
bindO False (vLoad false 1 v13 σ) fun v14 =>
bindO False (vIndex 1 v14 a3) fun v15 =>
bindO False (vLoad false 1 v15 σ) fun v16 =>
weakW σ v16 σ fun v σ => R (.ret v) σ) (
bindO False (vBin none .eql a3 (.int .i64 1)) fun v17 =>
guardG False v17 true (fun J18 =>
bindO False (vNil a0) fun v21 =>
bindO False (vField 3 v21) fun v22 =>
bindO False (vLoad false 1 v22 σ) fun v23 =>
bindO False (vIndex 1 v23 a2) fun v24 =>
bindO False (vLoad false 1 v24 σ) fun v25 =>
bindO False (vPart false 1 z0.2 1) fun v26 =>
bindO False (vBin none .eql v25 v26) fun v27 =>
J18 (lookE [(34, (.v a0)), (35, (.v v21)), (36, (.v v22)), (37, (.v v23)), (38, (.v a2)), (39, (.v v24)), (40, (.v v25)), (41, (.loc 5 1)), (42, (.v v26)), (43, (.v v27))]) σ) σ (fun y19 σ20 =>
bindO False (vPick v17 (y19 43).pv (.bool false)) fun v28 =>
weakW σ v28 σ20 fun v σ => R (.ret v) σ))

theorem fn93_eq (W : CallP) (a0 a1 a2 a3 : PV) (σ : St) (R : Res → St → Prop) : bodyC (algP W) Tryz.prog annF 93 [a0, a1, a2, a3] σ R = fn93 Tryz.prog W a0 a1 a2 a3 σ R := by kernel_rfl

/-- (*environ/hyper.table).grow$1 -/
def fn167 (Pr : Program) (W : CallP) (a0 a1 a2 a3 : PV) (σ : St) (R : Res → St → Prop) : Prop :=
bindO False (vLoad false 1 a1 σ) fun v0 =>
bindO False (vLoad false 1 a2 σ) fun v1 =>
bindO False (vLoad false 1 a3 σ) fun v2 =>
callB W 168 [v0, a0, v1, v2] σ (fun v3 σ4 =>
weakW σ v3 σ4 fun v σ => R (.ret v) σ) (fun e5 σ6 => R (.pan e5) σ6)

theorem fn167_eq (W : CallP) (a0 a1 a2 a3 : PV) (σ : St) (R : Res → St → Prop) : bodyC (algP W) Tryz.prog annF 167 [a0, a1, a2, a3] σ R = fn167 Tryz.prog W a0 a1 a2 a3 σ R := by kernel_rfl

/-- (*environ/hyper.table).list -/
def fn168 (Pr : Program) (W : CallP) (a0 a1 a2 a3 : PV) (σ : St) (R : Res → St → Prop) : Prop :=
bindO False (vLen .sl a1 σ) fun v0 =>
bindO False (vBin none .eql v0 (.int .i64 0)) fun v1 =>
condW v1 (
bindO False (vBin none .eql a3 (.int .i64 0)) fun v2 =>
weakW σ v2 σ fun v σ => R (.ret v) σ) (
bindO False (vIndex 2 a1 (.int .i64 0)) fun v3 =>
bindO False (vField 0 v3) fun v4 =>
bindO False (vLoad false 1 v4 σ) fun v5 =>
bindO False (vUn .not v5) fun v6 =>
guardG False v6 true (fun J7 =>
bindO False (vBin none .eql a3 (.int .i64 0)) fun v10 =>
J7 (lookE [(29, (.v a3)), (30, (.v v10)), (31, (.v v10))]) σ) σ (fun y8 σ9 =>
guardG False (y8 31).pv false (fun J11 =>
bindO False (vNil a0) fun v14 =>
bindO False (vField 3 v14) fun v15 =>
bindO False (vLoad false 1 v15 σ9) fun v16 =>
bindO False (vIndex 1 v16 a2) fun v17 =>
bindO False (vLoad false 1 v17 σ9) fun v18 =>
bindO False (vIndex 2 a1 (.int .i64 0)) fun v19 =>
bindO False (vField 1 v19) fun v20 =>
bindO False (vLoad false 1 v20 σ9) fun v21 =>
bindO False (vBin none .neq v18 v21) fun v22 =>
J11 (lookE [(32, (.v a0)), (33, (.v v14)), (34, (.v v15)), (35, (.v v16)), (36, (.v a2)), (37, (.v v17)), (38, (.v v18)), (39, (.v a1)), (40, (.v v19)), (41, (.v v20)), (42, (.v v21)), (43, (.v v22))]) σ9) σ9 (fun y12 σ13 =>
guardG False v6 true (fun J23 =>
bindO False (vPick (y8 31).pv (.bool true) (y12 43).pv) fun v26 =>
J23 (lookE [(44, (.v v26))]) σ13) σ13 (fun y24 σ25 =>
bindO False (vPick v6 (y24 44).pv (.bool false)) fun v27 =>
condW v27 (
weakW σ (.bool false) σ25 fun v σ => R (.ret v) σ) (
bindO False (vBin none .add a3 (.int .i64 1)) fun v28 =>
bindS (vMakeSl 1 1 (.bool false) v28 v28 σ25) fun v29 σ30 =>
bindO False (vIndex 1 v29 (.int .i64 0)) fun v31 =>
bindO False (vStore 1 v31 (.bool true) σ30) fun σ32 =>
bindO False (vLen .sl a1 σ32) fun v33 =>
Lfp σ (fun Φ34 x35 σ36 =>
bindO False (vBin none .lss (x35 53) (x35 52)) fun v37 =>
condW v37 (
bindO False (vIndex 2 (x35 51) (x35 53)) fun v38 =>
bindO False (vLoad true 2 v38 σ36) fun v39 =>
bindO False (vPut 2 (.agg [(.bool false), (.str [])]) 0 v39) fun z40 =>
bindO False (vBin none .add (x35 3) (.int .i64 1)) fun v41 =>
bindS (vMakeSl 1 1 (.bool false) v41 v41 σ36) fun v42 σ43 =>
bindO False (vLen .sl (x35 9) σ43) fun v44 =>
Lfp σ (fun Φ45 x46 σ47 =>
bindO False (vBin none .lss (x46 62) (x46 61)) fun v48 =>
condW v48 (
bindO False (vIndex 1 (x46 60) (x46 62)) fun v49 =>
bindO False (vLoad false 1 v49 σ47) fun v50 =>
bindO False (vUn .not v50) fun v51 =>
condW v51 (
bindO False (vBin none .add (x46 62) (.int .i64 1)) fun v52 =>
Φ45 (lookP [(0, (x46 0)), (2, (x46 2)), (3, (x46 3)), (12, (x46 12)), (13, (x46 13)), (51, (x46 51)), (52, (x46 52)), (53, (x46 53)), (60, (x46 60)), (61, (x46 61)), (62, v52), (11, (x46 11))]) σ47) (
bindO False (vPart false 1 (x46 11) 0) fun v53 =>
bindO False (vUn .not v53) fun v54 =>
condW v54 (
bindO False (vBin none .add (x46 62) (.int .i64 1)) fun v55 =>
bindO False (vMin (x46 3) v55) fun v56 =>
Lfp σ (fun Φ57 x58 σ59 =>
bindO False (vBin none .leq (x58 17) (x58 16)) fun v60 =>
condW v60 (
bindO False (vPart true 2 (x58 11) 0) fun v61 =>
bindO False (vBin none .add (x58 2) (x58 14)) fun v62 =>
bindO False (vBin none .sub (x58 17) (x58 14)) fun v63 =>
callB W 93 [(x58 0), v61, v62, v63] σ59 (fun v64 σ65 =>
condW v64 (
bindO False (vIndex 1 (x58 12) (x58 17)) fun v66 =>
bindO False (vStore 1 v66 (.bool true) σ65) fun σ67 =>
bindO False (vBin none .add (x58 17) (.int .i64 1)) fun v68 =>
Φ57 (lookP [(0, (x58 0)), (2, (x58 2)), (3, (x58 3)), (12, (x58 12)), (13, (.bool true)), (14, (x58 14)), (16, (x58 16)), (17, v68), (51, (x58 51)), (52, (x58 52)), (53, (x58 53)), (60, (x58 60)), (61, (x58 61)), (62, (x58 62)), (11, (x58 11))]) σ67) (
bindO False (vBin none .add (x58 17) (.int .i64 1)) fun v69 =>
Φ57 (lookP [(0, (x58 0)), (2, (x58 2)), (3, (x58 3)), (12, (x58 12)), (13, (x58 13)), (14, (x58 14)), (16, (x58 16)), (17, v69), (51, (x58 51)), (52, (x58 52)), (53, (x58 53)), (60, (x58 60)), (61, (x58 61)), (62, (x58 62)), (11, (x58 11))]) σ65)) (fun e70 σ71 => R (.pan e70) σ71)) (
bindO False (vBin none .add (x58 62) (.int .i64 1)) fun v72 =>
Φ45 (lookP [(0, (x58 0)), (2, (x58 2)), (3, (x58 3)), (12, (x58 12)), (13, (x58 13)), (51, (x58 51)), (52, (x58 52)), (53, (x58 53)), (60, (x58 60)), (61, (x58 61)), (62, v72), (11, (x58 11))]) σ59)) (lookP [(0, (x46 0)), (2, (x46 2)), (3, (x46 3)), (12, (x46 12)), (13, (x46 13)), (14, (x46 62)), (16, v56), (17, (x46 62)), (51, (x46 51)), (52, (x46 52)), (53, (x46 53)), (60, (x46 60)), (61, (x46 61)), (62, (x46 62)), (11, (x46 11))]) σ47) (
Lfp σ (fun Φ73 x74 σ75 =>
bindO False (vBin none .leq (x74 17) (x74 16)) fun v76 =>
condW v76 (
bindO False (vPart true 2 (x74 11) 0) fun v77 =>
bindO False (vBin none .add (x74 2) (x74 14)) fun v78 =>
bindO False (vBin none .sub (x74 17) (x74 14)) fun v79 =>
callB W 93 [(x74 0), v77, v78, v79] σ75 (fun v80 σ81 =>
condW v80 (
bindO False (vIndex 1 (x74 12) (x74 17)) fun v82 =>
bindO False (vStore 1 v82 (.bool true) σ81) fun σ83 =>
bindO False (vBin none .add (x74 17) (.int .i64 1)) fun v84 =>
Φ73 (lookP [(0, (x74 0)), (2, (x74 2)), (3, (x74 3)), (12, (x74 12)), (13, (.bool true)), (14, (x74 14)), (16, (x74 16)), (17, v84), (51, (x74 51)), (52, (x74 52)), (53, (x74 53)), (60, (x74 60)), (61, (x74 61)), (62, (x74 62)), (11, (x74 11))]) σ83) (
bindO False (vBin none .add (x74 17) (.int .i64 1)) fun v85 =>
Φ73 (lookP [(0, (x74 0)), (2, (x74 2)), (3, (x74 3)), (12, (x74 12)), (13, (x74 13)), (14, (x74 14)), (16, (x74 16)), (17, v85), (51, (x74 51)), (52, (x74 52)), (53, (x74 53)), (60, (x74 60)), (61, (x74 61)), (62, (x74 62)), (11, (x74 11))]) σ81)) (fun e86 σ87 => R (.pan e86) σ87)) (
bindO False (vBin none .add (x74 62) (.int .i64 1)) fun v88 =>
Φ45 (lookP [(0, (x74 0)), (2, (x74 2)), (3, (x74 3)), (12, (x74 12)), (13, (x74 13)), (51, (x74 51)), (52, (x74 52)), (53, (x74 53)), (60, (x74 60)), (61, (x74 61)), (62, v88), (11, (x74 11))]) σ75)) (lookP [(0, (x46 0)), (2, (x46 2)), (3, (x46 3)), (12, (x46 12)), (13, (x46 13)), (14, (x46 62)), (16, (x46 3)), (17, (x46 62)), (51, (x46 51)), (52, (x46 52)), (53, (x46 53)), (60, (x46 60)), (61, (x46 61)), (62, (x46 62)), (11, (x46 11))]) σ47))) (
bindO False (vUn .not (x46 13)) fun v89 =>
condW v89 (
weakW σ (.bool false) σ47 fun v σ => R (.ret v) σ) (
bindO False (vBin none .add (x46 53) (.int .i64 1)) fun v90 =>
Φ34 (lookP [(0, (x46 0)), (2, (x46 2)), (3, (x46 3)), (9, (x46 12)), (51, (x46 51)), (52, (x46 52)), (53, v90)]) σ47))) (lookP [(0, (x35 0)), (2, (x35 2)), (3, (x35 3)), (12, v42), (13, (.bool false)), (51, (x35 51)), (52, (x35 52)), (53, (x35 53)), (60, (x35 9)), (61, v44), (62, (.int .i64 0)), (11, z40)]) σ43) (
bindO False (vIndex 1 (x35 9) (x35 3)) fun v91 =>
bindO False (vLoad false 1 v91 σ36) fun v92 =>
weakW σ v92 σ36 fun v σ => R (.ret v) σ)) (lookP [(0, a0), (2, a2), (3, a3), (9, v29), (51, a1), (52, v33), (53, (.int .i64 0))]) σ32)))))

theorem fn168_eq (W : CallP) (a0 a1 a2 a3 : PV) (σ : St) (R : Res → St → Prop) : bodyC (algP W) Tryz.prog annF 168 [a0, a1, a2, a3] σ R = fn168 Tryz.prog W a0 a1 a2 a3 σ R := by kernel_rfl

end Go.Proofs.YtiniifbmeobmgaaGreatDoor
