/- The bodies of some functions, as the abstract machine reads them (printed by wip/tools/Pr.lean), each held against the program's form by the kernel. -/
import Derived.Test.YtiniifbmeobmgaaGreatDoorAnn
import Derived.Test.YtiniifbmeobmgaaGreatDoorProg
import Derived.KernelRfl
set_option linter.unusedVariables false
namespace Go.Proofs.YtiniifbmeobmgaaGreatDoor
open Go Go.Abs

/-- (*environ/environref19.reader).next -/
def fn78 (Pr : Program) (W : CallP) (a0 : PV) (σ : St) (R : Res → St → Prop) : Prop :=
CutW σ (fun J0 =>
Lfp σ (fun Φ3 x4 σ5 =>
bindO False (vNil (x4 0)) fun v6 =>
bindO False (vField 1 v6) fun v7 =>
bindO False (vLoad false 1 v7 σ5) fun v8 =>
bindO False (vNil (x4 0)) fun v9 =>
bindO False (vField 0 v9) fun v10 =>
bindO False (vLoad false 1 v10 σ5) fun v11 =>
bindO False (vLen .str v11 σ5) fun v12 =>
bindO False (vBin none .lss v8 v12) fun v13 =>
guardG False v13 true (fun J14 =>
bindO False (vNil (x4 0)) fun v17 =>
bindO False (vField 0 v17) fun v18 =>
bindO False (vLoad false 1 v18 σ5) fun v19 =>
bindO False (vNil (x4 0)) fun v20 =>
bindO False (vField 1 v20) fun v21 =>
bindO False (vLoad false 1 v21 σ5) fun v22 =>
bindO False (vStrAt v19 v22) fun v23 =>
bindO False (vBin none .eql v23 (.int .u8 32)) fun v24 =>
J14 (lookE [(15, (.v (x4 0))), (16, (.v v17)), (17, (.v v18)), (18, (.v v19)), (19, (.v (x4 0))), (20, (.v v20)), (21, (.v v21)), (22, (.v v22)), (23, (.v v23)), (24, (.v v24)), (25, (.v v24))]) σ5) σ5 (fun y15 σ16 =>
guardG False (y15 25).pv false (fun J25 =>
bindO False (vNil (x4 0)) fun v28 =>
bindO False (vField 0 v28) fun v29 =>
bindO False (vLoad false 1 v29 σ16) fun v30 =>
bindO False (vNil (x4 0)) fun v31 =>
bindO False (vField 1 v31) fun v32 =>
bindO False (vLoad false 1 v32 σ16) fun v33 =>
bindO False (vStrAt v30 v33) fun v34 =>
bindO False (vBin none .eql v34 (.int .u8 9)) fun v35 =>
J25 (lookE [(26, (.v (x4 0))), (27, (.v v28)), (28, (.v v29)), (29, (.v v30)), (30, (.v (x4 0))), (31, (.v v31)), (32, (.v v32)), (33, (.v v33)), (34, (.v v34)), (35, (.v v35))]) σ16) σ16 (fun y26 σ27 =>
guardG False v13 true (fun J36 =>
bindO False (vPick (y15 25).pv (.bool true) (y26 35).pv) fun v39 =>
J36 (lookE [(36, (.v v39)), (37, (.v v39))]) σ27) σ27 (fun y37 σ38 =>
guardG False (y37 37).pv false (fun J40 =>
bindO False (vNil (x4 0)) fun v43 =>
bindO False (vField 0 v43) fun v44 =>
bindO False (vLoad false 1 v44 σ38) fun v45 =>
bindO False (vNil (x4 0)) fun v46 =>
bindO False (vField 1 v46) fun v47 =>
bindO False (vLoad false 1 v47 σ38) fun v48 =>
bindO False (vStrAt v45 v48) fun v49 =>
bindO False (vBin none .eql v49 (.int .u8 10)) fun v50 =>
J40 (lookE [(38, (.v (x4 0))), (39, (.v v43)), (40, (.v v44)), (41, (.v v45)), (42, (.v (x4 0))), (43, (.v v46)), (44, (.v v47)), (45, (.v v48)), (46, (.v v49)), (47, (.v v50))]) σ38) σ38 (fun y41 σ42 =>
guardG False v13 true (fun J51 =>
bindO False (vPick (y37 37).pv (.bool true) (y41 47).pv) fun v54 =>
J51 (lookE [(48, (.v v54))]) σ42) σ42 (fun y52 σ53 =>
bindO False (vPick v13 (y52 48).pv (.bool false)) fun v55 =>
condW v55 (
bindO False (vNil (x4 0)) fun v56 =>
bindO False (vField 1 v56) fun v57 =>
bindO False (vLoad false 1 v57 σ53) fun v58 =>
bindO False (vBin none .add v58 (.int .i64 1)) fun v59 =>
bindO False (vNil (x4 0)) fun v60 =>
bindO False (vField 1 v60) fun v61 =>
bindO False (vStore 1 v61 v59 σ53) fun σ62 =>
Φ3 (lookP [(0, (x4 0))]) σ62) (
J0 (lookP [(0, (x4 0))]) σ53))))))) (lookP [(0, a0)]) σ) (fun x1 σ2 =>
bindO False (vNil (x1 0)) fun v63 =>
bindO False (vField 1 v63) fun v64 =>
bindO False (vLoad false 1 v64 σ2) fun v65 =>
CutW σ (fun J66 =>
Lfp σ (fun Φ69 x70 σ71 =>
bindO False (vNil (x70 0)) fun v72 =>
bindO False (vField 1 v72) fun v73 =>
bindO False (vLoad false 1 v73 σ71) fun v74 =>
bindO False (vNil (x70 0)) fun v75 =>
bindO False (vField 0 v75) fun v76 =>
bindO False (vLoad false 1 v76 σ71) fun v77 =>
bindO False (vLen .str v77 σ71) fun v78 =>
bindO False (vBin none .lss v74 v78) fun v79 =>
guardG False v79 true (fun J80 =>
bindO False (vNil (x70 0)) fun v83 =>
bindO False (vField 0 v83) fun v84 =>
bindO False (vLoad false 1 v84 σ71) fun v85 =>
bindO False (vNil (x70 0)) fun v86 =>
bindO False (vField 1 v86) fun v87 =>
bindO False (vLoad false 1 v87 σ71) fun v88 =>
bindO False (vStrAt v85 v88) fun v89 =>
callB W 141 [v89] σ71 (fun v90 σ91 =>
J80 (lookE [(72, (.v (x70 0))), (73, (.v v83)), (74, (.v v84)), (75, (.v v85)), (76, (.v (x70 0))), (77, (.v v86)), (78, (.v v87)), (79, (.v v88)), (80, (.v v89)), (81, (.v v90))]) σ91) (fun e92 σ93 => R (.pan e92) σ93)) σ71 (fun y81 σ82 =>
bindO False (vPick v79 (y81 81).pv (.bool false)) fun v94 =>
condW v94 (
bindO False (vNil (x70 0)) fun v95 =>
bindO False (vField 1 v95) fun v96 =>
bindO False (vLoad false 1 v96 σ82) fun v97 =>
bindO False (vBin none .add v97 (.int .i64 1)) fun v98 =>
bindO False (vNil (x70 0)) fun v99 =>
bindO False (vField 1 v99) fun v100 =>
bindO False (vStore 1 v100 v98 σ82) fun σ101 =>
Φ69 (lookP [(0, (x70 0)), (2, (x70 2))]) σ101) (
J66 (lookP [(0, (x70 0)), (2, (x70 2))]) σ82))) (lookP [(0, (x1 0)), (2, v65)]) σ2) (fun x67 σ68 =>
CutW σ (fun J102 =>
bindO False (vNil (x67 0)) fun v105 =>
bindO False (vField 1 v105) fun v106 =>
bindO False (vLoad false 1 v106 σ68) fun v107 =>
bindO False (vBin none .eql v107 (x67 2)) fun v108 =>
guardG False v108 true (fun J109 =>
bindO False (vNil (x67 0)) fun v112 =>
bindO False (vField 1 v112) fun v113 =>
bindO False (vLoad false 1 v113 σ68) fun v114 =>
bindO False (vNil (x67 0)) fun v115 =>
bindO False (vField 0 v115) fun v116 =>
bindO False (vLoad false 1 v116 σ68) fun v117 =>
bindO False (vLen .str v117 σ68) fun v118 =>
bindO False (vBin none .lss v114 v118) fun v119 =>
J109 (lookE [(97, (.v (x67 0))), (98, (.v v112)), (99, (.v v113)), (100, (.v v114)), (101, (.v (x67 0))), (102, (.v v115)), (103, (.v v116)), (104, (.v v117)), (105, (.v v118)), (106, (.v v119))]) σ68) σ68 (fun y110 σ111 =>
bindO False (vPick v108 (y110 106).pv (.bool false)) fun v120 =>
condW v120 (
bindO False (vNil (x67 0)) fun v121 =>
bindO False (vField 0 v121) fun v122 =>
bindO False (vLoad false 1 v122 σ111) fun v123 =>
bindO False (vNil (x67 0)) fun v124 =>
bindO False (vField 1 v124) fun v125 =>
bindO False (vLoad false 1 v125 σ111) fun v126 =>
bindO False (vStrAt v123 v126) fun v127 =>
bindO False (vBin none .neq v127 (.int .u8 46)) fun v128 =>
guardG False v128 true (fun J129 =>
bindO False (vBin none .neq v127 (.int .u8 58)) fun v132 =>
J129 (lookE [(120, (.v v127)), (121, (.v v132))]) σ111) σ111 (fun y130 σ131 =>
bindO False (vPick v128 (y130 121).pv (.bool false)) fun v133 =>
guardG False v133 true (fun J134 =>
bindO False (vBin none .neq v127 (.int .u8 59)) fun v137 =>
J134 (lookE [(124, (.v v127)), (125, (.v v137))]) σ131) σ131 (fun y135 σ136 =>
bindO False (vPick v133 (y135 125).pv (.bool false)) fun v138 =>
guardG False v138 true (fun J139 =>
bindO False (vBin none .neq v127 (.int .u8 44)) fun v142 =>
J139 (lookE [(128, (.v v127)), (129, (.v v142))]) σ136) σ136 (fun y140 σ141 =>
bindO False (vPick v138 (y140 129).pv (.bool false)) fun v143 =>
condW v143 (
callB W 142 [(x67 0), (x67 2), (.int .i64 2)] σ141 (fun v144 σ145 =>
bindO False (vNil (x67 0)) fun v146 =>
bindO False (vField 0 v146) fun v147 =>
bindO False (vLoad false 1 v147 σ145) fun v148 =>
bindO False (vLen .str v148 σ145) fun v149 =>
bindO False (vNil (x67 0)) fun v150 =>
bindO False (vField 1 v150) fun v151 =>
bindO False (vStore 1 v151 v149 σ145) fun σ152 =>
bindO False (vBuild [(.str []), (.int .i64 0)] [(0, 1, (.str [])), (1, 1, (x67 2))]) fun v153 =>
bindO False (vNil (x67 0)) fun v154 =>
bindO False (vField 2 v154) fun v155 =>
bindO False (vStore 2 v155 (.agg v153) σ152) fun σ156 =>
weakW σ (.tuple []) σ156 fun v σ => R (.ret v) σ) (fun e157 σ158 => R (.pan e157) σ158)) (
bindO False (vNil (x67 0)) fun v159 =>
bindO False (vField 1 v159) fun v160 =>
bindO False (vLoad false 1 v160 σ141) fun v161 =>
bindO False (vBin none .add v161 (.int .i64 1)) fun v162 =>
bindO False (vNil (x67 0)) fun v163 =>
bindO False (vField 1 v163) fun v164 =>
bindO False (vStore 1 v164 v162 σ141) fun σ165 =>
bindO False (vBin none .eql v127 (.int .u8 58)) fun v166 =>
guardG False v166 true (fun J167 =>
bindO False (vNil (x67 0)) fun v170 =>
bindO False (vField 1 v170) fun v171 =>
bindO False (vLoad false 1 v171 σ165) fun v172 =>
bindO False (vNil (x67 0)) fun v173 =>
bindO False (vField 0 v173) fun v174 =>
bindO False (vLoad false 1 v174 σ165) fun v175 =>
bindO False (vLen .str v175 σ165) fun v176 =>
bindO False (vBin none .lss v172 v176) fun v177 =>
J167 (lookE [(157, (.v (x67 0))), (158, (.v v170)), (159, (.v v171)), (160, (.v v172)), (161, (.v (x67 0))), (162, (.v v173)), (163, (.v v174)), (164, (.v v175)), (165, (.v v176)), (166, (.v v177))]) σ165) σ165 (fun y168 σ169 =>
bindO False (vPick v166 (y168 166).pv (.bool false)) fun v178 =>
guardG False v178 true (fun J179 =>
bindO False (vNil (x67 0)) fun v182 =>
bindO False (vField 0 v182) fun v183 =>
bindO False (vLoad false 1 v183 σ169) fun v184 =>
bindO False (vNil (x67 0)) fun v185 =>
bindO False (vField 1 v185) fun v186 =>
bindO False (vLoad false 1 v186 σ169) fun v187 =>
bindO False (vStrAt v184 v187) fun v188 =>
bindO False (vBin none .eql v188 (.int .u8 58)) fun v189 =>
J179 (lookE [(169, (.v (x67 0))), (170, (.v v182)), (171, (.v v183)), (172, (.v v184)), (173, (.v (x67 0))), (174, (.v v185)), (175, (.v v186)), (176, (.v v187)), (177, (.v v188)), (178, (.v v189))]) σ169) σ169 (fun y180 σ181 =>
bindO False (vPick v178 (y180 178).pv (.bool false)) fun v190 =>
condW v190 (
bindO False (vNil (x67 0)) fun v191 =>
bindO False (vField 1 v191) fun v192 =>
bindO False (vLoad false 1 v192 σ181) fun v193 =>
bindO False (vBin none .add v193 (.int .i64 1)) fun v194 =>
bindO False (vNil (x67 0)) fun v195 =>
bindO False (vField 1 v195) fun v196 =>
bindO False (vStore 1 v196 v194 σ181) fun σ197 =>
J102 (lookP [(0, (x67 0)), (2, (x67 2))]) σ197) (
J102 (lookP [(0, (x67 0)), (2, (x67 2))]) σ181)))))))) (
J102 (lookP [(0, (x67 0)), (2, (x67 2))]) σ111))) (fun x103 σ104 =>
bindO False (vNil (x103 0)) fun v198 =>
bindO False (vField 0 v198) fun v199 =>
bindO False (vLoad false 1 v199 σ104) fun v200 =>
bindO False (vNil (x103 0)) fun v201 =>
bindO False (vField 1 v201) fun v202 =>
bindO False (vLoad false 1 v202 σ104) fun v203 =>
bindO False (vSubStr v200 (some (x103 2)) (some v203)) fun v204 =>
bindO False (vBuild [(.str []), (.int .i64 0)] [(0, 1, v204), (1, 1, (x103 2))]) fun v205 =>
bindO False (vNil (x103 0)) fun v206 =>
bindO False (vField 2 v206) fun v207 =>
bindO False (vStore 2 v207 (.agg v205) σ104) fun σ208 =>
weakW σ (.tuple []) σ208 fun v σ => R (.ret v) σ)))

theorem fn78_eq (W : CallP) (a0 : PV) (σ : St) (R : Res → St → Prop) : bodyC (algP W) Tryz.prog annF 78 [a0] σ R = fn78 Tryz.prog W a0 σ R := by kernel_rfl

/-- (*environ/environref19.reader).wrong -/
def fn79 (Pr : Program) (W : CallP) (a0 : PV) (σ : St) (R : Res → St → Prop) : Prop :=
CutW σ (fun J0 =>
bindO False (vNil a0) fun v3 =>
bindO False (vField 2 v3) fun v4 =>
bindO False (vField 0 v4) fun v5 =>
bindO False (vLoad false 1 v5 σ) fun v6 =>
bindO False (vBin none .eql v6 (.str [])) fun v7 =>
condW v7 (
bindO False (vNil a0) fun v8 =>
bindO False (vField 0 v8) fun v9 =>
bindO False (vLoad false 1 v9 σ) fun v10 =>
bindO False (vLen .str v10 σ) fun v11 =>
callB W 142 [a0, v11, (.int .i64 16)] σ (fun v12 σ13 =>
J0 (lookP [(0, a0)]) σ13) (fun e14 σ15 => R (.pan e14) σ15)) (
J0 (lookP [(0, a0)]) σ)) (fun x1 σ2 =>
bindO False (vNil (x1 0)) fun v16 =>
bindO False (vField 2 v16) fun v17 =>
bindO False (vField 1 v17) fun v18 =>
bindO False (vLoad false 1 v18 σ2) fun v19 =>
callB W 142 [(x1 0), v19, (.int .i64 9)] σ2 (fun v20 σ21 =>
weakW σ (.tuple []) σ21 fun v σ => R (.ret v) σ) (fun e22 σ23 => R (.pan e22) σ23))

theorem fn79_eq (W : CallP) (a0 : PV) (σ : St) (R : Res → St → Prop) : bodyC (algP W) Tryz.prog annF 79 [a0] σ R = fn79 Tryz.prog W a0 σ R := by kernel_rfl

/-- (*environ/environref19.reader).parts -/
def fn80 (Pr : Program) (W : CallP) (a0 a1 : PV) (σ : St) (R : Res → St → Prop) : Prop :=
CutW σ (fun J0 =>
Lfp σ (fun Φ3 x4 σ5 =>
callB W 143 [(x4 0)] σ5 (fun v6 σ7 =>
guardG False v6 true (fun J8 =>
bindO False (vNil (x4 0)) fun v11 =>
bindO False (vField 4 v11) fun v12 =>
bindO False (vField 1 v12) fun v13 =>
bindO False (vLoad false 1 v13 σ7) fun v14 =>
bindO False (vBin none .eql v14 (.int .i64 0)) fun v15 =>
J8 (lookE [(11, (.v (x4 0))), (12, (.v v11)), (13, (.v v12)), (14, (.v v13)), (15, (.v v14)), (16, (.v v15))]) σ7) σ7 (fun y9 σ10 =>
bindO False (vPick v6 (y9 16).pv (.bool false)) fun v16 =>
condW v16 (
bindO False (vNil (x4 0)) fun v17 =>
bindO False (vField 2 v17) fun v18 =>
bindO False (vField 0 v18) fun v19 =>
bindO False (vLoad false 1 v19 σ10) fun v20 =>
callB W 130 [v20] σ10 (fun v21 σ22 =>
CutW σ (fun J23 =>
bindO False (vUn .not v21) fun v26 =>
guardG False v26 true (fun J27 =>
bindO False (vBin none .neq v20 (.str [69, 77, 80, 84, 89])) fun v30 =>
J27 (lookE [(28, (.v v20)), (29, (.v v30))]) σ22) σ22 (fun y28 σ29 =>
bindO False (vPick v26 (y28 29).pv (.bool false)) fun v31 =>
guardG False v31 true (fun J32 =>
callB W 66 [v20] σ29 (fun v35 σ36 =>
bindO False (vUn .not v35) fun v37 =>
J32 (lookE [(32, (.v v20)), (33, (.v v35)), (34, (.v v37))]) σ36) (fun e38 σ39 => R (.pan e38) σ39)) σ29 (fun y33 σ34 =>
bindO False (vPick v31 (y33 34).pv (.bool false)) fun v40 =>
guardG False v40 true (fun J41 =>
J41 (lookE [(37, (.v (x4 1))), (38, (.v (x4 1)))]) σ34) σ34 (fun y42 σ43 =>
guardG False (y42 38).pv true (fun J44 =>
callB W 129 [v20] σ43 (fun v47 σ48 =>
bindO False (vBin none .neq v47 (.str [])) fun v49 =>
J44 (lookE [(39, (.v v20)), (40, (.v v47)), (41, (.v v49))]) σ48) (fun e50 σ51 => R (.pan e50) σ51)) σ43 (fun y45 σ46 =>
guardG False v40 true (fun J52 =>
bindO False (vPick (y42 38).pv (y45 41).pv (.bool false)) fun v55 =>
bindO False (vUn .not v55) fun v56 =>
J52 (lookE [(42, (.v v55)), (43, (.v v56))]) σ46) σ46 (fun y53 σ54 =>
bindO False (vPick v40 (y53 43).pv (.bool false)) fun v57 =>
condW v57 (
bindO False (vNil (x4 0)) fun v58 =>
bindO False (vField 2 v58) fun v59 =>
bindO False (vField 1 v59) fun v60 =>
bindO False (vLoad false 1 v60 σ54) fun v61 =>
callB W 142 [(x4 0), v61, (.int .i64 8)] σ54 (fun v62 σ63 =>
J23 (lookP [(0, (x4 0)), (1, (x4 1)), (5, (x4 5)), (6, v20), (7, v21)]) σ63) (fun e64 σ65 => R (.pan e64) σ65)) (
J23 (lookP [(0, (x4 0)), (1, (x4 1)), (5, (x4 5)), (6, v20), (7, v21)]) σ54))))))) (fun x24 σ25 =>
CutW σ (fun J66 =>
bindO False (vLen .sl (x24 5) σ25) fun v69 =>
bindO False (vBin none .gtr v69 (.int .i64 0)) fun v70 =>
guardG False v70 true (fun J71 =>
bindO False (vBin none .eql (x24 6) (.str [69, 77, 80, 84, 89])) fun v74 =>
J71 (lookE [(56, (.v (x24 6))), (57, (.v v74)), (58, (.v v74))]) σ25) σ25 (fun y72 σ73 =>
guardG False (y72 58).pv false (fun J75 =>
bindO False (vLen .sl (x24 5) σ73) fun v78 =>
bindO False (vBin none .sub v78 (.int .i64 1)) fun v79 =>
bindO False (vIndex 2 (x24 5) v79) fun v80 =>
bindO False (vField 1 v80) fun v81 =>
bindO False (vLoad false 1 v81 σ73) fun v82 =>
bindO False (vBin none .eql v82 (.str [69, 77, 80, 84, 89])) fun v83 =>
J75 (lookE [(59, (.v (x24 5))), (60, (.v (x24 5))), (61, (.v v78)), (62, (.v v79)), (63, (.v v80)), (64, (.v v81)), (65, (.v v82)), (66, (.v v83))]) σ73) σ73 (fun y76 σ77 =>
guardG False v70 true (fun J84 =>
bindO False (vPick (y72 58).pv (.bool true) (y76 66).pv) fun v87 =>
J84 (lookE [(67, (.v v87))]) σ77) σ77 (fun y85 σ86 =>
bindO False (vPick v70 (y85 67).pv (.bool false)) fun v88 =>
condW v88 (
bindO False (vNil (x24 0)) fun v89 =>
bindO False (vField 2 v89) fun v90 =>
bindO False (vField 1 v90) fun v91 =>
bindO False (vLoad false 1 v91 σ86) fun v92 =>
callB W 142 [(x24 0), v92, (.int .i64 9)] σ86 (fun v93 σ94 =>
J66 (lookP [(0, (x24 0)), (1, (x24 1)), (5, (x24 5)), (6, (x24 6)), (7, (x24 7))]) σ94) (fun e95 σ96 => R (.pan e95) σ96)) (
J66 (lookP [(0, (x24 0)), (1, (x24 1)), (5, (x24 5)), (6, (x24 6)), (7, (x24 7))]) σ86))))) (fun x67 σ68 =>
bindO False (vUn .not (x67 7)) fun v97 =>
bindO False (vBuild [(.bool false), (.str [])] [(0, 1, v97), (1, 1, (x67 6))]) fun v98 =>
bindO False (vBuildSl 2 (List.replicate 1 (.agg [(.bool false), (.str [])])) [(0, (.agg v98))]) fun v99 =>
bindS (vAppend 2 24 (x67 5) (.list .full v99) σ68) fun v100 σ101 =>
callB W 78 [(x67 0)] σ101 (fun v102 σ103 =>
Φ3 (lookP [(0, (x67 0)), (1, (x67 1)), (5, v100)]) σ103) (fun e104 σ105 => R (.pan e104) σ105)))) (fun e106 σ107 => R (.pan e106) σ107)) (
J0 (lookP [(5, (x4 5))]) σ10))) (fun e108 σ109 => R (.pan e108) σ109)) (lookP [(0, a0), (1, a1), (5, (.list .nil []))]) σ) (fun x1 σ2 =>
weakW σ (x1 5) σ2 fun v σ => R (.ret v) σ)

theorem fn80_eq (W : CallP) (a0 a1 : PV) (σ : St) (R : Res → St → Prop) : bodyC (algP W) Tryz.prog annF 80 [a0, a1] σ R = fn80 Tryz.prog W a0 a1 σ R := by kernel_rfl

/-- (*environ/environref19.reader).alternative -/
def fn81 (Pr : Program) (W : CallP) (a0 a1 : PV) (σ : St) (R : Res → St → Prop) : Prop :=
callB W 80 [a0, a1] σ (fun v0 σ1 =>
CutW σ (fun J2 =>
bindO False (vLen .sl v0 σ1) fun v5 =>
bindO False (vBin none .eql v5 (.int .i64 0)) fun v6 =>
condW v6 (
callB W 79 [a0] σ1 (fun v7 σ8 =>
J2 (lookP [(5, v0)]) σ8) (fun e9 σ10 => R (.pan e9) σ10)) (
J2 (lookP [(5, v0)]) σ1)) (fun x3 σ4 =>
bindO False (vLen .sl (x3 5) σ4) fun v11 =>
bindO False (vBin none .eql v11 (.int .i64 1)) fun v12 =>
guardG False v12 true (fun J13 =>
bindO False (vIndex 2 (x3 5) (.int .i64 0)) fun v16 =>
bindO False (vField 1 v16) fun v17 =>
bindO False (vLoad false 1 v17 σ4) fun v18 =>
bindO False (vBin none .eql v18 (.str [69, 77, 80, 84, 89])) fun v19 =>
J13 (lookE [(18, (.v (x3 5))), (19, (.v v16)), (20, (.v v17)), (21, (.v v18)), (22, (.v v19))]) σ4) σ4 (fun y14 σ15 =>
bindO False (vPick v12 (y14 22).pv (.bool false)) fun v20 =>
condW v20 (
bindO False (vBuildSl 2 (List.replicate 0 (.agg [(.bool false), (.str [])])) []) fun v21 =>
weakW σ (.list .full v21) σ15 fun v σ => R (.ret v) σ) (
weakW σ (x3 5) σ15 fun v σ => R (.ret v) σ)))) (fun e22 σ23 => R (.pan e22) σ23)

theorem fn81_eq (W : CallP) (a0 a1 : PV) (σ : St) (R : Res → St → Prop) : bodyC (algP W) Tryz.prog annF 81 [a0, a1] σ R = fn81 Tryz.prog W a0 a1 σ R := by kernel_rfl

/-- environ/environref19.letter -/
def fn141 (Pr : Program) (W : CallP) (a0 : PV) (σ : St) (R : Res → St → Prop) : Prop :=
bindO False (vBin none .geq a0 (.int .u8 97)) fun v0 =>
guardG False v0 true (fun J1 =>
bindO False (vBin none .leq a0 (.int .u8 122)) fun v4 =>
J1 (lookE [(6, (.v a0)), (7, (.v v4))]) σ) σ (fun y2 σ3 =>
bindO False (vPick v0 (y2 7).pv (.bool false)) fun v5 =>
guardG False v5 false (fun J6 =>
bindO False (vBin none .geq a0 (.int .u8 65)) fun v9 =>
J6 (lookE [(10, (.v a0)), (11, (.v v9)), (12, (.v v9))]) σ3) σ3 (fun y7 σ8 =>
guardG False (y7 12).pv true (fun J10 =>
bindO False (vBin none .leq a0 (.int .u8 90)) fun v13 =>
J10 (lookE [(13, (.v a0)), (14, (.v v13))]) σ8) σ8 (fun y11 σ12 =>
guardG False v5 false (fun J14 =>
bindO False (vPick (y7 12).pv (y11 14).pv (.bool false)) fun v17 =>
J14 (lookE [(15, (.v v17))]) σ12) σ12 (fun y15 σ16 =>
bindO False (vPick v5 (.bool true) (y15 15).pv) fun v18 =>
guardG False v18 false (fun J19 =>
bindO False (vBin none .geq a0 (.int .u8 49)) fun v22 =>
J19 (lookE [(18, (.v a0)), (19, (.v v22)), (20, (.v v22))]) σ16) σ16 (fun y20 σ21 =>
guardG False (y20 20).pv true (fun J23 =>
bindO False (vBin none .leq a0 (.int .u8 57)) fun v26 =>
J23 (lookE [(21, (.v a0)), (22, (.v v26))]) σ21) σ21 (fun y24 σ25 =>
guardG False v18 false (fun J27 =>
bindO False (vPick (y20 20).pv (y24 22).pv (.bool false)) fun v30 =>
J27 (lookE [(23, (.v v30))]) σ25) σ25 (fun y28 σ29 =>
bindO False (vPick v18 (.bool true) (y28 23).pv) fun v31 =>
weakW σ v31 σ29 fun v σ => R (.ret v) σ)))))))

theorem fn141_eq (W : CallP) (a0 : PV) (σ : St) (R : Res → St → Prop) : bodyC (algP W) Tryz.prog annF 141 [a0] σ R = fn141 Tryz.prog W a0 σ R := by kernel_rfl

/-- (*environ/environref19.reader).stop -/
def fn142 (Pr : Program) (W : CallP) (a0 a1 a2 : PV) (σ : St) (R : Res → St → Prop) : Prop :=
bindO False (vNil a0) fun v0 =>
bindO False (vField 4 v0) fun v1 =>
bindO False (vField 1 v1) fun v2 =>
bindO False (vLoad false 1 v2 σ) fun v3 =>
bindO False (vBin none .eql v3 (.int .i64 0)) fun v4 =>
condW v4 (
bindO False (vBuild [(.int .i64 0), (.int .i64 0)] [(0, 1, a1), (1, 1, a2)]) fun v5 =>
bindO False (vNil a0) fun v6 =>
bindO False (vField 4 v6) fun v7 =>
bindO False (vStore 2 v7 (.agg v5) σ) fun σ8 =>
weakW σ (.tuple []) σ8 fun v σ => R (.ret v) σ) (
weakW σ (.tuple []) σ fun v σ => R (.ret v) σ)

theorem fn142_eq (W : CallP) (a0 a1 a2 : PV) (σ : St) (R : Res → St → Prop) : bodyC (algP W) Tryz.prog annF 142 [a0, a1, a2] σ R = fn142 Tryz.prog W a0 a1 a2 σ R := by kernel_rfl

/-- (*environ/environref19.reader).part -/
def fn143 (Pr : Program) (W : CallP) (a0 : PV) (σ : St) (R : Res → St → Prop) : Prop :=
bindO False (vNil a0) fun v0 =>
bindO False (vField 2 v0) fun v1 =>
bindO False (vField 0 v1) fun v2 =>
bindO False (vLoad false 1 v2 σ) fun v3 =>
bindO False (vBin none .neq v3 (.str [])) fun v4 =>
guardG False v4 true (fun J5 =>
bindO False (vNil a0) fun v8 =>
bindO False (vField 2 v8) fun v9 =>
bindO False (vField 0 v9) fun v10 =>
bindO False (vLoad false 1 v10 σ) fun v11 =>
bindO False (vStrAt v11 (.int .i64 0)) fun v12 =>
callB W 141 [v12] σ (fun v13 σ14 =>
J5 (lookE [(10, (.v a0)), (11, (.v v8)), (12, (.v v9)), (13, (.v v10)), (14, (.v v11)), (15, (.v v12)), (16, (.v v13))]) σ14) (fun e15 σ16 => R (.pan e15) σ16)) σ (fun y6 σ7 =>
bindO False (vPick v4 (y6 16).pv (.bool false)) fun v17 =>
weakW σ v17 σ7 fun v σ => R (.ret v) σ)

theorem fn143_eq (W : CallP) (a0 : PV) (σ : St) (R : Res → St → Prop) : bodyC (algP W) Tryz.prog annF 143 [a0] σ R = fn143 Tryz.prog W a0 σ R := by kernel_rfl

/-- (*environ/environref19.reader).rule -/
def fn82 (Pr : Program) (W : CallP) (a0 a1 a2 : PV) (σ : St) (R : Res → St → Prop) : Prop :=
bindO False (opC.vBoxAny a1) fun z0 =>
CutW σ (fun J1 =>
Lfp σ (fun Φ4 x5 σ6 =>
bindO False (vNil (x5 0)) fun v7 =>
bindO False (vField 4 v7) fun v8 =>
bindO False (vField 1 v8) fun v9 =>
bindO False (vLoad false 1 v9 σ6) fun v10 =>
bindO False (vBin none .eql v10 (.int .i64 0)) fun v11 =>
condW v11 (
callB W 81 [(x5 0), (.bool true)] σ6 (fun v12 σ13 =>
CutW σ (fun J14 =>
bindO False (vLen .sl v12 σ13) fun v17 =>
bindO False (vBin none .gtr v17 (.int .i64 0)) fun v18 =>
condW v18 (
bindO False (vBuildSl 1 (List.replicate 1 (.list .nil [])) [(0, v12)]) fun v19 =>
bindS (vAppend 1 24 (.list .nil []) (.list .full v19) σ13) fun v20 σ21 =>
J14 (lookP [(0, (x5 0)), (2, (x5 2)), (7, v20), (8, v12), (4, (x5 4)), (6, (x5 6))]) σ21) (
J14 (lookP [(0, (x5 0)), (2, (x5 2)), (7, (.list .nil [])), (8, v12), (4, (x5 4)), (6, (x5 6))]) σ13)) (fun x15 σ16 =>
CutW σ (fun J22 =>
Lfp σ (fun Φ25 x26 σ27 =>
bindO False (vNil (x26 0)) fun v28 =>
bindO False (vField 2 v28) fun v29 =>
bindO False (vField 0 v29) fun v30 =>
bindO False (vLoad false 1 v30 σ27) fun v31 =>
bindO False (vBin none .eql v31 (.str [44])) fun v32 =>
guardG False v32 true (fun J33 =>
bindO False (vNil (x26 0)) fun v36 =>
bindO False (vField 4 v36) fun v37 =>
bindO False (vField 1 v37) fun v38 =>
bindO False (vLoad false 1 v38 σ27) fun v39 =>
bindO False (vBin none .eql v39 (.int .i64 0)) fun v40 =>
J33 (lookE [(31, (.v (x26 0))), (32, (.v v36)), (33, (.v v37)), (34, (.v v38)), (35, (.v v39)), (36, (.v v40))]) σ27) σ27 (fun y34 σ35 =>
bindO False (vPick v32 (y34 36).pv (.bool false)) fun v41 =>
condW v41 (
bindO False (vLen .sl (x26 8) σ35) fun v42 =>
bindO False (vBin none .eql v42 (.int .i64 0)) fun v43 =>
condW v43 (
callB W 79 [(x26 0)] σ35 (fun v44 σ45 =>
J22 (lookP [(0, (x26 0)), (2, (x26 2)), (7, (x26 7)), (4, (x26 4)), (6, (x26 6))]) σ45) (fun e46 σ47 => R (.pan e46) σ47)) (
callB W 78 [(x26 0)] σ35 (fun v48 σ49 =>
CutW σ (fun J50 =>
bindO False (vNil (x26 0)) fun v53 =>
bindO False (vField 2 v53) fun v54 =>
bindO False (vField 0 v54) fun v55 =>
bindO False (vLoad false 1 v55 σ49) fun v56 =>
bindO False (vBin none .eql v56 (.str [69, 77, 80, 84, 89])) fun v57 =>
condW v57 (
callB W 79 [(x26 0)] σ49 (fun v58 σ59 =>
J50 (lookP [(0, (x26 0)), (2, (x26 2)), (7, (x26 7)), (8, (x26 8)), (4, (x26 4)), (6, (x26 6))]) σ59) (fun e60 σ61 => R (.pan e60) σ61)) (
J50 (lookP [(0, (x26 0)), (2, (x26 2)), (7, (x26 7)), (8, (x26 8)), (4, (x26 4)), (6, (x26 6))]) σ49)) (fun x51 σ52 =>
callB W 81 [(x51 0), (.bool true)] σ52 (fun v62 σ63 =>
bindO False (vBuildSl 1 (List.replicate 1 (.list .nil [])) [(0, v62)]) fun v64 =>
bindS (vAppend 1 24 (x51 7) (.list .full v64) σ63) fun v65 σ66 =>
Φ25 (lookP [(0, (x51 0)), (2, (x51 2)), (7, v65), (8, (x51 8)), (4, (x51 4)), (6, (x51 6))]) σ66) (fun e67 σ68 => R (.pan e67) σ68))) (fun e69 σ70 => R (.pan e69) σ70))) (
J22 (lookP [(0, (x26 0)), (2, (x26 2)), (7, (x26 7)), (4, (x26 4)), (6, (x26 6))]) σ35))) (lookP [(0, (x15 0)), (2, (x15 2)), (7, (x15 7)), (8, (x15 8)), (4, (x15 4)), (6, (x15 6))]) σ16) (fun x23 σ24 =>
bindO False (vPart false 1 (x23 4) 1) fun v71 =>
bindO False (vBuild [(.list .nil []), (.list .nil [])] [(0, 1, (x23 2)), (1, 1, (x23 7))]) fun v72 =>
bindO False (vBuildSl 2 (List.replicate 1 (.agg [(.list .nil []), (.list .nil [])])) [(0, (.agg v72))]) fun v73 =>
bindS (vAppend 2 48 v71 (.list .full v73) σ24) fun v74 σ75 =>
bindO False (vPut 1 (x23 4) 1 v74) fun z76 =>
bindO False (vNil (x23 0)) fun v77 =>
bindO False (vField 2 v77) fun v78 =>
bindO False (vField 0 v78) fun v79 =>
bindO False (vLoad false 1 v79 σ75) fun v80 =>
bindO False (vBin none .neq v80 (.str [59])) fun v81 =>
condW v81 (
bindO False (vPart true 2 z76 0) fun v82 =>
bindO False (vPut 2 (x23 6) 0 v82) fun z83 =>
bindO False (resCons (vPart true 2 z83 0) (some [])) fun vs => weakW σ (vResults vs) σ75 fun v σ => R (.ret v) σ) (
callB W 78 [(x23 0)] σ75 (fun v84 σ85 =>
Φ4 (lookP [(0, (x23 0)), (2, (x23 2)), (4, z76), (6, (x23 6))]) σ85) (fun e86 σ87 => R (.pan e86) σ87))))) (fun e88 σ89 => R (.pan e88) σ89)) (
J1 (lookP [(4, (x5 4)), (6, (x5 6))]) σ6)) (lookP [(0, a0), (2, a2), (4, z0.2), (6, (.agg [(.list .nil []), (.list .nil [])]))]) σ) (fun x2 σ3 =>
bindO False (vPart true 2 (x2 4) 0) fun v90 =>
bindO False (vPut 2 (x2 6) 0 v90) fun z91 =>
bindO False (resCons (vPart true 2 z91 0) (some [])) fun vs => weakW σ (vResults vs) σ3 fun v σ => R (.ret v) σ)

theorem fn82_eq (W : CallP) (a0 a1 a2 : PV) (σ : St) (R : Res → St → Prop) : bodyC (algP W) Tryz.prog annF 82 [a0, a1, a2] σ R = fn82 Tryz.prog W a0 a1 a2 σ R := by kernel_rfl

/-- environ/environref19.Read -/
def fn21 (Pr : Program) (W : CallP) (a0 : PV) (σ : St) (R : Res → St → Prop) : Prop :=
bindO False (vLen .str a0 σ) fun v0 =>
bindO False (vBin none .gtr v0 (.int .i64 65536)) fun v1 =>
condW v1 (
bindO False (vBuild [(.list .nil []), (.list .nil [])] []) fun v2 =>
bindO False (vBuild [(.int .i64 0), (.int .i64 0)] [(1, 1, (.int .i64 3))]) fun v3 =>
bindO False (vPut 2 (.agg [(.list .nil []), (.list .nil [])]) 0 (.agg v2)) fun z4 =>
bindO False (vPut 2 (.agg [(.int .i64 0), (.int .i64 0)]) 0 (.agg v3)) fun z5 =>
bindO False (resCons (vPart true 2 z4 0) (resCons (vPart true 2 z5 0) (some []))) fun vs => weakW σ (vResults vs) σ fun v σ => R (.ret v) σ) (
bindO False (vBuild [(.str []), (.int .i64 0), (.str []), (.int .i64 0), (.int .i64 0), (.int .i64 0)] [(0, 1, a0)]) fun v6 =>
bindO False (opC.vBoxAny (.agg v6)) fun z7 =>
if 0 < z7.1 then newW z7.1 z7.2 σ fun p8 σ9 =>
bindO False (vBuild [(.list .nil []), (.list .nil [])] []) fun v10 =>
bindO False (vPut 2 (.agg [(.list .nil []), (.list .nil [])]) 0 (.agg v10)) fun z11 =>
callB W 78 [p8] σ9 (fun v12 σ13 =>
CutW σ (fun J14 =>
Lfp σ (fun Φ17 x18 σ19 =>
bindO False (vNil (x18 4)) fun v20 =>
bindO False (vField 2 v20) fun v21 =>
bindO False (vField 0 v21) fun v22 =>
bindO False (vLoad false 1 v22 σ19) fun v23 =>
bindO False (vBin none .neq v23 (.str [])) fun v24 =>
guardG False v24 true (fun J25 =>
bindO False (vNil (x18 4)) fun v28 =>
bindO False (vField 4 v28) fun v29 =>
bindO False (vField 1 v29) fun v30 =>
bindO False (vLoad false 1 v30 σ19) fun v31 =>
bindO False (vBin none .eql v31 (.int .i64 0)) fun v32 =>
J25 (lookE [(28, (.v (x18 4))), (29, (.v v28)), (30, (.v v29)), (31, (.v v30)), (32, (.v v31)), (33, (.v v32))]) σ19) σ19 (fun y26 σ27 =>
bindO False (vPick v24 (y26 33).pv (.bool false)) fun v33 =>
condW v33 (
CutW σ (fun J34 =>
bindO False (vNil (x18 4)) fun v37 =>
bindO False (vField 2 v37) fun v38 =>
bindO False (vField 0 v38) fun v39 =>
bindO False (vLoad false 1 v39 σ27) fun v40 =>
bindO False (vBin none .eql v40 (.str [69, 77, 80, 84, 89])) fun v41 =>
condW v41 (
callB W 79 [(x18 4)] σ27 (fun v42 σ43 =>
J34 (lookP [(4, (x18 4)), (2, (x18 2)), (3, (x18 3)), (5, (x18 5))]) σ43) (fun e44 σ45 => R (.pan e44) σ45)) (
J34 (lookP [(4, (x18 4)), (2, (x18 2)), (3, (x18 3)), (5, (x18 5))]) σ27)) (fun x35 σ36 =>
callB W 80 [(x35 4), (.bool true)] σ36 (fun v46 σ47 =>
CutW σ (fun J48 =>
bindO False (vNil (x35 4)) fun v51 =>
bindO False (vField 4 v51) fun v52 =>
bindO False (vField 1 v52) fun v53 =>
bindO False (vLoad false 1 v53 σ47) fun v54 =>
bindO False (vBin none .neq v54 (.int .i64 0)) fun v55 =>
condW v55 (
J48 (lookP [(4, (x35 4)), (2, (x35 2)), (3, (x35 3)), (5, (x35 5))]) σ47) (
bindO False (vNil (x35 4)) fun v56 =>
bindO False (vField 2 v56) fun v57 =>
bindO False (vField 0 v57) fun v58 =>
bindO False (vLoad false 1 v58 σ47) fun v59 =>
bindO False (vBin none .eql v59 (.str [58, 58])) fun v60 =>
guardG False v60 true (fun J61 =>
bindO False (vPart false 1 (x35 5) 1) fun v64 =>
bindO False (vLen .sl v64 σ47) fun v65 =>
bindO False (vBin none .eql v65 (.int .i64 0)) fun v66 =>
J61 (lookE [(62, (.loc 5 1)), (63, (.v v64)), (64, (.v v65)), (65, (.v v66))]) σ47) σ47 (fun y62 σ63 =>
bindO False (vPick v60 (y62 65).pv (.bool false)) fun v67 =>
guardG False v67 true (fun J68 =>
bindO False (vLen .sl v46 σ63) fun v71 =>
bindO False (vBin none .eql v71 (.int .i64 1)) fun v72 =>
J68 (lookE [(68, (.v v46)), (69, (.v v71)), (70, (.v v72))]) σ63) σ63 (fun y69 σ70 =>
bindO False (vPick v67 (y69 70).pv (.bool false)) fun v73 =>
guardG False v73 true (fun J74 =>
bindO False (vIndex 2 v46 (.int .i64 0)) fun v77 =>
bindO False (vField 1 v77) fun v78 =>
bindO False (vLoad false 1 v78 σ70) fun v79 =>
callB W 66 [v79] σ70 (fun v80 σ81 =>
J74 (lookE [(73, (.v v46)), (74, (.v v77)), (75, (.v v78)), (76, (.v v79)), (77, (.v v80))]) σ81) (fun e82 σ83 => R (.pan e82) σ83)) σ70 (fun y75 σ76 =>
bindO False (vPick v73 (y75 77).pv (.bool false)) fun v84 =>
condW v84 (
bindO False (vIndex 2 v46 (.int .i64 0)) fun v85 =>
bindO False (vField 1 v85) fun v86 =>
bindO False (vLoad false 1 v86 σ76) fun v87 =>
bindO False (vBuild [(.str []), (.list .nil [])] [(0, 1, v87)]) fun v88 =>
bindO False (vPut 2 (.agg [(.str []), (.list .nil [])]) 0 (.agg v88)) fun z89 =>
CutW σ (fun J90 =>
Lfp σ (fun Φ93 x94 σ95 =>
guardG False (x94 8) true (fun J96 =>
bindO False (vNil (x94 4)) fun v99 =>
bindO False (vField 4 v99) fun v100 =>
bindO False (vField 1 v100) fun v101 =>
bindO False (vLoad false 1 v101 σ95) fun v102 =>
bindO False (vBin none .eql v102 (.int .i64 0)) fun v103 =>
J96 (lookE [(86, (.v (x94 4))), (87, (.v v99)), (88, (.v v100)), (89, (.v v101)), (90, (.v v102)), (91, (.v v103))]) σ95) σ95 (fun y97 σ98 =>
bindO False (vPick (x94 8) (y97 91).pv (.bool false)) fun v104 =>
condW v104 (
callB W 78 [(x94 4)] σ98 (fun v105 σ106 =>
bindO False (vPart false 1 (x94 7) 1) fun v107 =>
callB W 81 [(x94 4), (.bool false)] σ106 (fun v108 σ109 =>
bindO False (vBuildSl 1 (List.replicate 1 (.list .nil [])) [(0, v108)]) fun v110 =>
bindS (vAppend 1 24 v107 (.list .full v110) σ109) fun v111 σ112 =>
bindO False (vPut 1 (x94 7) 1 v111) fun z113 =>
bindO False (vNil (x94 4)) fun v114 =>
bindO False (vField 2 v114) fun v115 =>
bindO False (vField 0 v115) fun v116 =>
bindO False (vLoad false 1 v116 σ112) fun v117 =>
bindO False (vBin none .eql v117 (.str [59])) fun v118 =>
Φ93 (lookP [(4, (x94 4)), (8, v118), (2, (x94 2)), (3, (x94 3)), (5, (x94 5)), (7, z113)]) σ112) (fun e119 σ120 => R (.pan e119) σ120)) (fun e121 σ122 => R (.pan e121) σ122)) (
J90 (lookP [(4, (x94 4)), (2, (x94 2)), (3, (x94 3)), (5, (x94 5)), (7, (x94 7))]) σ98))) (lookP [(4, (x35 4)), (8, (.bool true)), (2, (x35 2)), (3, (x35 3)), (5, (x35 5)), (7, z89)]) σ76) (fun x91 σ92 =>
bindO False (vPart false 1 (x91 5) 0) fun v123 =>
bindO False (vPart true 2 (x91 7) 0) fun v124 =>
bindO False (vBuildSl 2 (List.replicate 1 (.agg [(.str []), (.list .nil [])])) [(0, v124)]) fun v125 =>
bindS (vAppend 2 40 v123 (.list .full v125) σ92) fun v126 σ127 =>
bindO False (vPut 1 (x91 5) 0 v126) fun z128 =>
J48 (lookP [(4, (x91 4)), (2, (x91 2)), (3, (x91 3)), (5, z128)]) σ127)) (
bindO False (vNil (x35 4)) fun v129 =>
bindO False (vField 2 v129) fun v130 =>
bindO False (vField 0 v130) fun v131 =>
bindO False (vLoad false 1 v131 σ76) fun v132 =>
bindO False (vBin none .eql v132 (.str [58])) fun v133 =>
guardG False v133 true (fun J134 =>
bindO False (vLen .sl v46 σ76) fun v137 =>
bindO False (vBin none .gtr v137 (.int .i64 0)) fun v138 =>
J134 (lookE [(122, (.v v46)), (123, (.v v137)), (124, (.v v138))]) σ76) σ76 (fun y135 σ136 =>
bindO False (vPick v133 (y135 124).pv (.bool false)) fun v139 =>
condW v139 (
callB W 78 [(x35 4)] σ136 (fun v140 σ141 =>
bindO False (vPart true 2 (x35 5) 0) fun v142 =>
callB W 82 [(x35 4), v142, v46] σ141 (fun v143 σ144 =>
bindO False (vPut 2 (x35 5) 0 v143) fun z145 =>
J48 (lookP [(4, (x35 4)), (2, (x35 2)), (3, (x35 3)), (5, z145)]) σ144) (fun e146 σ147 => R (.pan e146) σ147)) (fun e148 σ149 => R (.pan e148) σ149)) (
callB W 79 [(x35 4)] σ136 (fun v150 σ151 =>
J48 (lookP [(4, (x35 4)), (2, (x35 2)), (3, (x35 3)), (5, (x35 5))]) σ151) (fun e152 σ153 => R (.pan e152) σ153))))))))) (fun x49 σ50 =>
CutW σ (fun J154 =>
bindO False (vNil (x49 4)) fun v157 =>
bindO False (vField 2 v157) fun v158 =>
bindO False (vField 0 v158) fun v159 =>
bindO False (vLoad false 1 v159 σ50) fun v160 =>
bindO False (vBin none .neq v160 (.str [46])) fun v161 =>
condW v161 (
callB W 79 [(x49 4)] σ50 (fun v162 σ163 =>
J154 (lookP [(4, (x49 4)), (2, (x49 2)), (3, (x49 3)), (5, (x49 5))]) σ163) (fun e164 σ165 => R (.pan e164) σ165)) (
J154 (lookP [(4, (x49 4)), (2, (x49 2)), (3, (x49 3)), (5, (x49 5))]) σ50)) (fun x155 σ156 =>
callB W 78 [(x155 4)] σ156 (fun v166 σ167 =>
Φ17 (lookP [(4, (x155 4)), (2, (x155 2)), (3, (x155 3)), (5, (x155 5))]) σ167) (fun e168 σ169 => R (.pan e168) σ169)))) (fun e170 σ171 => R (.pan e170) σ171))) (
J14 (lookP [(4, (x18 4)), (2, (x18 2)), (3, (x18 3)), (5, (x18 5))]) σ27))) (lookP [(4, p8), (2, (.agg [(.list .nil []), (.list .nil [])])), (3, (.agg [(.int .i64 0), (.int .i64 0)])), (5, z11)]) σ13) (fun x15 σ16 =>
bindO False (vNil (x15 4)) fun v172 =>
bindO False (vField 4 v172) fun v173 =>
bindO False (vField 1 v173) fun v174 =>
bindO False (vLoad false 1 v174 σ16) fun v175 =>
bindO False (vBin none .neq v175 (.int .i64 0)) fun v176 =>
condW v176 (
bindO False (vBuild [(.list .nil []), (.list .nil [])] []) fun v177 =>
bindO False (vNil (x15 4)) fun v178 =>
bindO False (vField 4 v178) fun v179 =>
bindO False (vLoad true 2 v179 σ16) fun v180 =>
bindO False (vPut 2 (x15 2) 0 (.agg v177)) fun z181 =>
bindO False (vPut 2 (x15 3) 0 v180) fun z182 =>
bindO False (resCons (vPart true 2 z181 0) (resCons (vPart true 2 z182 0) (some []))) fun vs => weakW σ (vResults vs) σ16 fun v σ => R (.ret v) σ) (
bindO False (vPart true 2 (x15 5) 0) fun v183 =>
callB W 16 [v183] σ16 (fun v184 σ185 =>
bindO False (vBin none .neq v184 (.int .i64 0)) fun v186 =>
condW v186 (
bindO False (vBuild [(.list .nil []), (.list .nil [])] []) fun v187 =>
bindO False (vBuild [(.int .i64 0), (.int .i64 0)] [(1, 1, v184)]) fun v188 =>
bindO False (vPut 2 (x15 2) 0 (.agg v187)) fun z189 =>
bindO False (vPut 2 (x15 3) 0 (.agg v188)) fun z190 =>
bindO False (resCons (vPart true 2 z189 0) (resCons (vPart true 2 z190 0) (some []))) fun vs => weakW σ (vResults vs) σ185 fun v σ => R (.ret v) σ) (
bindO False (vPart true 2 (x15 5) 0) fun v191 =>
bindO False (vBuild [(.int .i64 0), (.int .i64 0)] []) fun v192 =>
bindO False (vPut 2 (x15 2) 0 v191) fun z193 =>
bindO False (vPut 2 (x15 3) 0 (.agg v192)) fun z194 =>
bindO False (resCons (vPart true 2 z193 0) (resCons (vPart true 2 z194 0) (some []))) fun vs => weakW σ (vResults vs) σ185 fun v σ => R (.ret v) σ)) (fun e195 σ196 => R (.pan e195) σ196)))) (fun e197 σ198 => R (.pan e197) σ198) else False)

theorem fn21_eq (W : CallP) (a0 : PV) (σ : St) (R : Res → St → Prop) : bodyC (algP W) Tryz.prog annF 21 [a0] σ R = fn21 Tryz.prog W a0 σ R := by kernel_rfl

end Go.Proofs.YtiniifbmeobmgaaGreatDoor
