/- The bodies of some functions, as the abstract machine reads them (printed by wip/tools/Pr.lean), each held against the program's form by the kernel. -/
import Derived.Test.YtiniifbmeobmgaaGreatDoorAnn
import Derived.Test.YtiniifbmeobmgaaGreatDoorProg
import Derived.KernelRfl
set_option linter.unusedVariables false
namespace Go.Proofs.YtiniifbmeobmgaaGreatDoor
open Go Go.Abs

/-- environ/environlaw19.HyperRenames -/
def fn10 (Pr : Program) (W : CallP) (a0 a1 a2 : PV) (σ : St) (R : Res → St → Prop) : Prop :=
bindO False (opC.vBoxAny a0) fun z0 =>
callB W 13 [] σ (fun v1 σ2 =>
bindO False (vUn .not v1) fun v3 =>
condW v3 (
weakW σ (.bool false) σ2 fun v σ => R (.ret v) σ) (
bindO False (vPart true 2 z0.2 0) fun v4 =>
callB W 14 [v4] σ2 (fun v5 σ6 =>
bindO False (vUn .not v5) fun v7 =>
guardG False v7 false (fun J8 =>
bindO False (vLen .str a1 σ6) fun v11 =>
bindO False (vBin none .gtr v11 (.int .i64 60)) fun v12 =>
J8 (lookE [(31, (.v a1)), (32, (.v v11)), (33, (.v v12))]) σ6) σ6 (fun y9 σ10 =>
bindO False (vPick v7 (.bool true) (y9 33).pv) fun v13 =>
guardG False v13 false (fun J14 =>
bindO False (vPart false 1 z0.2 0) fun v17 =>
bindO False (vLen .sl v17 σ10) fun v18 =>
bindO False (vBin none .eql v18 (.int .i64 0)) fun v19 =>
J14 (lookE [(36, (.loc 3 0)), (37, (.v v17)), (38, (.v v18)), (39, (.v v19))]) σ10) σ10 (fun y15 σ16 =>
bindO False (vPick v13 (.bool true) (y15 39).pv) fun v20 =>
guardG False v20 false (fun J21 =>
bindO False (vPart true 2 z0.2 0) fun v24 =>
callB W 15 [v24] σ16 (fun v25 σ26 =>
bindO False (vBin none .neq v25 (.int .i64 0)) fun v27 =>
J21 (lookE [(42, (.v v24)), (43, (.v v25)), (44, (.v v27))]) σ26) (fun e28 σ29 => R (.pan e28) σ29)) σ16 (fun y22 σ23 =>
bindO False (vPick v20 (.bool true) (y22 44).pv) fun v30 =>
condW v30 (
weakW σ (.bool true) σ23 fun v σ => R (.ret v) σ) (
bindO False (vPart false 1 z0.2 0) fun v31 =>
bindO False (vConv .i64 a2) fun v32 =>
bindO False (vPart false 1 z0.2 0) fun v33 =>
bindO False (vLen .sl v33 σ23) fun v34 =>
bindO False (vBin none .rem v32 v34) fun v35 =>
bindO False (vIndex 2 v31 v35) fun v36 =>
bindO False (vField 0 v36) fun v37 =>
bindO False (vLoad false 1 v37 σ23) fun v38 =>
newW 1 (.str []) σ23 fun p39 σ40 =>
bindO False (vStore 1 p39 v38 σ40) fun σ41 =>
callB W 34 [(.str [90]), (.int .i64 38)] σ41 (fun v42 σ43 =>
newW 1 (.str []) σ43 fun p44 σ45 =>
bindO False (vStore 1 p44 v42 σ45) fun σ46 =>
bindO False (vPart false 1 z0.2 0) fun v47 =>
callB W 35 [v47, (.func 36 [p44])] σ46 (fun v48 σ49 =>
condW v48 (
weakW σ (.bool true) σ49 fun v σ => R (.ret v) σ) (
CutW σ (fun J50 =>
bindO False (vPart false 1 z0.2 0) fun v53 =>
bindO False (vLen .sl v53 σ49) fun v54 =>
Lfp σ (fun Φ55 x56 σ57 =>
bindO False (vBin none .lss (x56 66) (x56 65)) fun v58 =>
condW v58 (
CutW σ (fun J59 =>
bindO False (vIndex 2 (x56 64) (x56 66)) fun v62 =>
bindO False (vLoad true 2 v62 σ57) fun v63 =>
bindO False (vPut 2 (.agg [(.str []), (.list .nil [])]) 0 v63) fun z64 =>
bindO False (vPart false 1 z64 0) fun v65 =>
bindO False (vBuild [(.str []), (.list .nil [])] [(0, 1, v65)]) fun v66 =>
bindO False (vPut 2 (.agg [(.str []), (.list .nil [])]) 0 (.agg v66)) fun z67 =>
CutW σ (fun J68 =>
bindO False (vPart false 1 z67 0) fun v71 =>
bindO False (vLoad false 1 (x56 7) σ57) fun v72 =>
bindO False (vBin none .eql v71 v72) fun v73 =>
condW v73 (
bindO False (vLoad false 1 (x56 8) σ57) fun v74 =>
bindO False (vPut 1 z67 0 v74) fun z75 =>
J68 (lookP [(1, (x56 1)), (7, (x56 7)), (8, (x56 8)), (9, (x56 9)), (64, (x56 64)), (65, (x56 65)), (66, (x56 66)), (3, (x56 3)), (10, (x56 10)), (12, z64), (13, z75)]) σ57) (
J68 (lookP [(1, (x56 1)), (7, (x56 7)), (8, (x56 8)), (9, (x56 9)), (64, (x56 64)), (65, (x56 65)), (66, (x56 66)), (3, (x56 3)), (10, (x56 10)), (12, z64), (13, z67)]) σ57)) (fun x69 σ70 =>
CutW σ (fun J76 =>
bindO False (vPart false 1 (x69 12) 1) fun v79 =>
bindO False (vLen .sl v79 σ70) fun v80 =>
Lfp σ (fun Φ81 x82 σ83 =>
bindO False (vBin none .lss (x82 82) (x82 81)) fun v84 =>
condW v84 (
bindO False (vIndex 1 (x82 80) (x82 82)) fun v85 =>
bindO False (vLoad false 1 v85 σ83) fun v86 =>
bindO False (vPart false 1 (x82 13) 1) fun v87 =>
callG (algP W) Pr false (x82 9) [v86] σ83 (fun v88 σ89 =>
bindO False (vBuildSl 1 (List.replicate 1 (.list .nil [])) [(0, v88)]) fun v90 =>
bindS (vAppend 1 24 v87 (.list .full v90) σ89) fun v91 σ92 =>
bindO False (vPut 1 (x82 13) 1 v91) fun z93 =>
bindO False (vBin none .add (x82 82) (.int .i64 1)) fun v94 =>
Φ81 (lookP [(1, (x82 1)), (7, (x82 7)), (8, (x82 8)), (9, (x82 9)), (64, (x82 64)), (65, (x82 65)), (66, (x82 66)), (80, (x82 80)), (81, (x82 81)), (82, v94), (3, (x82 3)), (10, (x82 10)), (13, z93)]) σ92) (fun e95 σ96 => R (.pan e95) σ96)) (
J76 (lookP [(1, (x82 1)), (7, (x82 7)), (8, (x82 8)), (9, (x82 9)), (64, (x82 64)), (65, (x82 65)), (66, (x82 66)), (3, (x82 3)), (10, (x82 10)), (13, (x82 13))]) σ83)) (lookP [(1, (x69 1)), (7, (x69 7)), (8, (x69 8)), (9, (x69 9)), (64, (x69 64)), (65, (x69 65)), (66, (x69 66)), (80, v79), (81, v80), (82, (.int .i64 0)), (3, (x69 3)), (10, (x69 10)), (13, (x69 13))]) σ70) (fun x77 σ78 =>
bindO False (vPart false 1 (x77 10) 0) fun v97 =>
bindO False (vPart true 2 (x77 13) 0) fun v98 =>
bindO False (vBuildSl 2 (List.replicate 1 (.agg [(.str []), (.list .nil [])])) [(0, v98)]) fun v99 =>
bindS (vAppend 2 40 v97 (.list .full v99) σ78) fun v100 σ101 =>
bindO False (vPut 1 (x77 10) 0 v100) fun z102 =>
J59 (lookP [(1, (x77 1)), (7, (x77 7)), (8, (x77 8)), (9, (x77 9)), (64, (x77 64)), (65, (x77 65)), (66, (x77 66)), (3, (x77 3)), (10, z102)]) σ101))) (fun x60 σ61 =>
bindO False (vBin none .add (x60 66) (.int .i64 1)) fun v103 =>
Φ55 (lookP [(1, (x60 1)), (7, (x60 7)), (8, (x60 8)), (9, (x60 9)), (64, (x60 64)), (65, (x60 65)), (66, v103), (3, (x60 3)), (10, (x60 10))]) σ61)) (
J50 (lookP [(1, (x56 1)), (7, (x56 7)), (8, (x56 8)), (9, (x56 9)), (3, (x56 3)), (10, (x56 10))]) σ57)) (lookP [(1, a1), (7, p39), (8, p44), (9, (.func 37 [p39, p44])), (64, v53), (65, v54), (66, (.int .i64 0)), (3, z0.2), (10, (.agg [(.list .nil []), (.list .nil [])]))]) σ49) (fun x51 σ52 =>
CutW σ (fun J104 =>
bindO False (vPart false 1 (x51 3) 1) fun v107 =>
bindO False (vLen .sl v107 σ52) fun v108 =>
Lfp σ (fun Φ109 x110 σ111 =>
bindO False (vBin none .lss (x110 105) (x110 104)) fun v112 =>
condW v112 (
CutW σ (fun J113 =>
bindO False (vIndex 2 (x110 103) (x110 105)) fun v116 =>
bindO False (vLoad true 2 v116 σ111) fun v117 =>
bindO False (vPut 2 (.agg [(.list .nil []), (.list .nil [])]) 0 v117) fun z118 =>
bindO False (vPart false 1 z118 0) fun v119 =>
callG (algP W) Pr false (x110 9) [v119] σ111 (fun v120 σ121 =>
bindO False (vBuild [(.list .nil []), (.list .nil [])] [(0, 1, v120)]) fun v122 =>
bindO False (vPut 2 (.agg [(.list .nil []), (.list .nil [])]) 0 (.agg v122)) fun z123 =>
CutW σ (fun J124 =>
bindO False (vPart false 1 z118 1) fun v127 =>
bindO False (vLen .sl v127 σ121) fun v128 =>
Lfp σ (fun Φ129 x130 σ131 =>
bindO False (vBin none .lss (x130 117) (x130 116)) fun v132 =>
condW v132 (
bindO False (vIndex 1 (x130 115) (x130 117)) fun v133 =>
bindO False (vLoad false 1 v133 σ131) fun v134 =>
bindO False (vPart false 1 (x130 18) 1) fun v135 =>
callG (algP W) Pr false (x130 9) [v134] σ131 (fun v136 σ137 =>
bindO False (vBuildSl 1 (List.replicate 1 (.list .nil [])) [(0, v136)]) fun v138 =>
bindS (vAppend 1 24 v135 (.list .full v138) σ137) fun v139 σ140 =>
bindO False (vPut 1 (x130 18) 1 v139) fun z141 =>
bindO False (vBin none .add (x130 117) (.int .i64 1)) fun v142 =>
Φ129 (lookP [(1, (x130 1)), (7, (x130 7)), (8, (x130 8)), (9, (x130 9)), (103, (x130 103)), (104, (x130 104)), (105, (x130 105)), (115, (x130 115)), (116, (x130 116)), (117, v142), (3, (x130 3)), (10, (x130 10)), (18, z141)]) σ140) (fun e143 σ144 => R (.pan e143) σ144)) (
J124 (lookP [(1, (x130 1)), (7, (x130 7)), (8, (x130 8)), (9, (x130 9)), (103, (x130 103)), (104, (x130 104)), (105, (x130 105)), (3, (x130 3)), (10, (x130 10)), (18, (x130 18))]) σ131)) (lookP [(1, (x110 1)), (7, (x110 7)), (8, (x110 8)), (9, (x110 9)), (103, (x110 103)), (104, (x110 104)), (105, (x110 105)), (115, v127), (116, v128), (117, (.int .i64 0)), (3, (x110 3)), (10, (x110 10)), (18, z123)]) σ121) (fun x125 σ126 =>
bindO False (vPart false 1 (x125 10) 1) fun v145 =>
bindO False (vPart true 2 (x125 18) 0) fun v146 =>
bindO False (vBuildSl 2 (List.replicate 1 (.agg [(.list .nil []), (.list .nil [])])) [(0, v146)]) fun v147 =>
bindS (vAppend 2 48 v145 (.list .full v147) σ126) fun v148 σ149 =>
bindO False (vPut 1 (x125 10) 1 v148) fun z150 =>
J113 (lookP [(1, (x125 1)), (7, (x125 7)), (8, (x125 8)), (9, (x125 9)), (103, (x125 103)), (104, (x125 104)), (105, (x125 105)), (3, (x125 3)), (10, z150)]) σ149)) (fun e151 σ152 => R (.pan e151) σ152)) (fun x114 σ115 =>
bindO False (vBin none .add (x114 105) (.int .i64 1)) fun v153 =>
Φ109 (lookP [(1, (x114 1)), (7, (x114 7)), (8, (x114 8)), (9, (x114 9)), (103, (x114 103)), (104, (x114 104)), (105, v153), (3, (x114 3)), (10, (x114 10))]) σ115)) (
J104 (lookP [(1, (x110 1)), (7, (x110 7)), (8, (x110 8)), (3, (x110 3)), (10, (x110 10))]) σ111)) (lookP [(1, (x51 1)), (7, (x51 7)), (8, (x51 8)), (9, (x51 9)), (103, v107), (104, v108), (105, (.int .i64 0)), (3, (x51 3)), (10, (x51 10))]) σ52) (fun x105 σ106 =>
bindO False (vPart true 2 (x105 3) 0) fun v154 =>
bindO False (vLoad false 1 (x105 7) σ106) fun v155 =>
callB W 18 [v154, v155, (x105 1)] σ106 (fun v156 σ157 =>
bindO False (vExtract v156 0) fun v158 =>
bindO False (vExtract v156 1) fun v159 =>
bindO False (vPart true 2 (x105 10) 0) fun v160 =>
bindO False (vLoad false 1 (x105 8) σ157) fun v161 =>
callB W 18 [v160, v161, (x105 1)] σ157 (fun v162 σ163 =>
bindO False (vExtract v162 0) fun v164 =>
bindO False (vExtract v162 1) fun v165 =>
bindO False (vPart true 2 (x105 10) 0) fun v166 =>
callB W 15 [v166] σ163 (fun v167 σ168 =>
bindO False (vBin none .eql v167 (.int .i64 0)) fun v169 =>
guardG False v169 true (fun J170 =>
bindO False (vBin (some .bool) .eql v158 v164) fun v173 =>
J170 (lookE [(155, (.v v158)), (156, (.v v164)), (157, (.v v173))]) σ168) σ168 (fun y171 σ172 =>
bindO False (vPick v169 (y171 157).pv (.bool false)) fun v174 =>
guardG False v174 true (fun J175 =>
bindO False (vBin none .eql v159 v165) fun v178 =>
J175 (lookE [(160, (.v v159)), (161, (.v v165)), (162, (.v v178))]) σ172) σ172 (fun y176 σ177 =>
bindO False (vPick v174 (y176 162).pv (.bool false)) fun v179 =>
weakW σ v179 σ177 fun v σ => R (.ret v) σ))) (fun e180 σ181 => R (.pan e180) σ181)) (fun e182 σ183 => R (.pan e182) σ183)) (fun e184 σ185 => R (.pan e184) σ185))))) (fun e186 σ187 => R (.pan e186) σ187)) (fun e188 σ189 => R (.pan e188) σ189)))))) (fun e190 σ191 => R (.pan e190) σ191))) (fun e192 σ193 => R (.pan e192) σ193)

theorem fn10_eq (W : CallP) (a0 a1 a2 : PV) (σ : St) (R : Res → St → Prop) : bodyC (algP W) Tryz.prog annF 10 [a0, a1, a2] σ R = fn10 Tryz.prog W a0 a1 a2 σ R := by kernel_rfl

end Go.Proofs.YtiniifbmeobmgaaGreatDoor
