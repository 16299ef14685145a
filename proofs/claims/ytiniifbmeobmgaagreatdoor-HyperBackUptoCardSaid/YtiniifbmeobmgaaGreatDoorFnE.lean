/- The bodies of some functions, as the abstract machine reads them (printed by wip/tools/Pr.lean), each held against the program's form by the kernel. -/
import Derived.Test.YtiniifbmeobmgaaGreatDoorAnn
import Derived.Test.YtiniifbmeobmgaaGreatDoorProg
import Derived.KernelRfl
set_option linter.unusedVariables false
namespace Go.Proofs.YtiniifbmeobmgaaGreatDoor
open Go Go.Abs

/-- (*environ/hyper.reader).next -/
def fn136 (Pr : Program) (W : CallP) (a0 : PV) (σ : St) (R : Res → St → Prop) : Prop :=
Lfp σ (fun Φ0 x1 σ2 =>
bindO False (vNil (x1 0)) fun v3 =>
bindO False (vField 1 v3) fun v4 =>
bindO False (vLoad false 1 v4 σ2) fun v5 =>
bindO False (vNil (x1 0)) fun v6 =>
bindO False (vField 0 v6) fun v7 =>
bindO False (vLoad false 1 v7 σ2) fun v8 =>
bindO False (vLen .str v8 σ2) fun v9 =>
bindO False (vBin none .lss v5 v9) fun v10 =>
guardG False v10 true (fun J11 =>
bindO False (vNil (x1 0)) fun v14 =>
bindO False (vField 0 v14) fun v15 =>
bindO False (vLoad false 1 v15 σ2) fun v16 =>
bindO False (vNil (x1 0)) fun v17 =>
bindO False (vField 1 v17) fun v18 =>
bindO False (vLoad false 1 v18 σ2) fun v19 =>
bindO False (vStrAt v16 v19) fun v20 =>
callB W 169 [(.str [9, 10, 32]), v20] σ2 (fun v21 σ22 =>
bindO False (vBin none .geq v21 (.int .i64 0)) fun v23 =>
J11 (lookE [(15, (.v (x1 0))), (16, (.v v14)), (17, (.v v15)), (18, (.v v16)), (19, (.v (x1 0))), (20, (.v v17)), (21, (.v v18)), (22, (.v v19)), (23, (.v v20)), (24, (.v v21)), (25, (.v v23))]) σ22) (fun e24 σ25 => R (.pan e24) σ25)) σ2 (fun y12 σ13 =>
bindO False (vPick v10 (y12 25).pv (.bool false)) fun v26 =>
condW v26 (
bindO False (vNil (x1 0)) fun v27 =>
bindO False (vField 1 v27) fun v28 =>
bindO False (vLoad false 1 v28 σ13) fun v29 =>
bindO False (vBin none .add v29 (.int .i64 1)) fun v30 =>
bindO False (vNil (x1 0)) fun v31 =>
bindO False (vField 1 v31) fun v32 =>
bindO False (vStore 1 v32 v30 σ13) fun σ33 =>
Φ0 (lookP [(0, (x1 0))]) σ33) (
bindO False (vNil (x1 0)) fun v34 =>
bindO False (vField 1 v34) fun v35 =>
bindO False (vLoad false 1 v35 σ13) fun v36 =>
bindO False (vNil (x1 0)) fun v37 =>
bindO False (vField 2 v37) fun v38 =>
bindO False (vStore 1 v38 v36 σ13) fun σ39 =>
bindO False (vNil (x1 0)) fun v40 =>
bindO False (vField 4 v40) fun v41 =>
bindO False (vStore 1 v41 (.str []) σ39) fun σ42 =>
bindO False (vNil (x1 0)) fun v43 =>
bindO False (vField 1 v43) fun v44 =>
bindO False (vLoad false 1 v44 σ42) fun v45 =>
bindO False (vNil (x1 0)) fun v46 =>
bindO False (vField 0 v46) fun v47 =>
bindO False (vLoad false 1 v47 σ42) fun v48 =>
bindO False (vLen .str v48 σ42) fun v49 =>
bindO False (vBin none .geq v45 v49) fun v50 =>
bindO False (vNil (x1 0)) fun v51 =>
bindO False (vField 5 v51) fun v52 =>
bindO False (vStore 1 v52 v50 σ42) fun σ53 =>
bindO False (vNil (x1 0)) fun v54 =>
bindO False (vField 5 v54) fun v55 =>
bindO False (vLoad false 1 v55 σ53) fun v56 =>
condW v56 (
bindO False (vNil (x1 0)) fun v57 =>
bindO False (vField 1 v57) fun v58 =>
bindO False (vLoad false 1 v58 σ53) fun v59 =>
bindO False (vNil (x1 0)) fun v60 =>
bindO False (vField 3 v60) fun v61 =>
bindO False (vStore 1 v61 v59 σ53) fun σ62 =>
weakW σ (.tuple []) σ62 fun v σ => R (.ret v) σ) (
bindO False (vNil (x1 0)) fun v63 =>
bindO False (vField 0 v63) fun v64 =>
bindO False (vLoad false 1 v64 σ53) fun v65 =>
bindO False (vNil (x1 0)) fun v66 =>
bindO False (vField 1 v66) fun v67 =>
bindO False (vLoad false 1 v67 σ53) fun v68 =>
bindO False (vStrAt v65 v68) fun v69 =>
callB W 170 [v69] σ53 (fun v70 σ71 =>
condW v70 (
Lfp σ (fun Φ72 x73 σ74 =>
bindO False (vNil (x73 0)) fun v75 =>
bindO False (vField 1 v75) fun v76 =>
bindO False (vLoad false 1 v76 σ74) fun v77 =>
bindO False (vNil (x73 0)) fun v78 =>
bindO False (vField 0 v78) fun v79 =>
bindO False (vLoad false 1 v79 σ74) fun v80 =>
bindO False (vLen .str v80 σ74) fun v81 =>
bindO False (vBin none .lss v77 v81) fun v82 =>
guardG False v82 true (fun J83 =>
bindO False (vNil (x73 0)) fun v86 =>
bindO False (vField 0 v86) fun v87 =>
bindO False (vLoad false 1 v87 σ74) fun v88 =>
bindO False (vNil (x73 0)) fun v89 =>
bindO False (vField 1 v89) fun v90 =>
bindO False (vLoad false 1 v90 σ74) fun v91 =>
bindO False (vStrAt v88 v91) fun v92 =>
callB W 170 [v92] σ74 (fun v93 σ94 =>
J83 (lookE [(97, (.v (x73 0))), (98, (.v v86)), (99, (.v v87)), (100, (.v v88)), (101, (.v (x73 0))), (102, (.v v89)), (103, (.v v90)), (104, (.v v91)), (105, (.v v92)), (106, (.v v93))]) σ94) (fun e95 σ96 => R (.pan e95) σ96)) σ74 (fun y84 σ85 =>
bindO False (vPick v82 (y84 106).pv (.bool false)) fun v97 =>
condW v97 (
bindO False (vNil (x73 0)) fun v98 =>
bindO False (vField 1 v98) fun v99 =>
bindO False (vLoad false 1 v99 σ85) fun v100 =>
bindO False (vBin none .add v100 (.int .i64 1)) fun v101 =>
bindO False (vNil (x73 0)) fun v102 =>
bindO False (vField 1 v102) fun v103 =>
bindO False (vStore 1 v103 v101 σ85) fun σ104 =>
Φ72 (lookP [(0, (x73 0))]) σ104) (
bindO False (vNil (x73 0)) fun v105 =>
bindO False (vField 0 v105) fun v106 =>
bindO False (vLoad false 1 v106 σ85) fun v107 =>
bindO False (vNil (x73 0)) fun v108 =>
bindO False (vField 2 v108) fun v109 =>
bindO False (vLoad false 1 v109 σ85) fun v110 =>
bindO False (vNil (x73 0)) fun v111 =>
bindO False (vField 1 v111) fun v112 =>
bindO False (vLoad false 1 v112 σ85) fun v113 =>
bindO False (vSubStr v107 (some v110) (some v113)) fun v114 =>
bindO False (vBin none .neq v114 (.str [69, 77, 80, 84, 89])) fun v115 =>
guardG False v115 true (fun J116 =>
callB W 125 [v114] σ85 (fun v119 σ120 =>
bindO False (vUn .not v119) fun v121 =>
J116 (lookE [(131, (.v v114)), (132, (.v v119)), (133, (.v v121))]) σ120) (fun e122 σ123 => R (.pan e122) σ123)) σ85 (fun y117 σ118 =>
bindO False (vPick v115 (y117 133).pv (.bool false)) fun v124 =>
guardG False v124 true (fun J125 =>
callB W 126 [v114] σ118 (fun v128 σ129 =>
bindO False (vUn .not v128) fun v130 =>
J125 (lookE [(136, (.v v114)), (137, (.v v128)), (138, (.v v130))]) σ129) (fun e131 σ132 => R (.pan e131) σ132)) σ118 (fun y126 σ127 =>
bindO False (vPick v124 (y126 138).pv (.bool false)) fun v133 =>
condW v133 (
bindO False (vNil (x73 0)) fun v134 =>
bindO False (vField 2 v134) fun v135 =>
bindO False (vLoad false 1 v135 σ127) fun v136 =>
callB W 171 [(x73 0), v136, (.int .i64 8)] σ127 (fun v137 σ138 =>
bindO False (vNil (x73 0)) fun v139 =>
bindO False (vField 1 v139) fun v140 =>
bindO False (vLoad false 1 v140 σ138) fun v141 =>
bindO False (vNil (x73 0)) fun v142 =>
bindO False (vField 3 v142) fun v143 =>
bindO False (vStore 1 v143 v141 σ138) fun σ144 =>
weakW σ (.tuple []) σ144 fun v σ => R (.ret v) σ) (fun e145 σ146 => R (.pan e145) σ146)) (
bindO False (vNil (x73 0)) fun v147 =>
bindO False (vField 1 v147) fun v148 =>
bindO False (vLoad false 1 v148 σ127) fun v149 =>
bindO False (vNil (x73 0)) fun v150 =>
bindO False (vField 3 v150) fun v151 =>
bindO False (vStore 1 v151 v149 σ127) fun σ152 =>
weakW σ (.tuple []) σ152 fun v σ => R (.ret v) σ)))))) (lookP [(0, (x1 0))]) σ71) (
callB W 169 [(.str [46, 58, 59, 44]), v69] σ71 (fun v153 σ154 =>
bindO False (vBin none .geq v153 (.int .i64 0)) fun v155 =>
condW v155 (
bindO False (vNil (x1 0)) fun v156 =>
bindO False (vField 1 v156) fun v157 =>
bindO False (vLoad false 1 v157 σ154) fun v158 =>
bindO False (vBin none .add v158 (.int .i64 1)) fun v159 =>
bindO False (vNil (x1 0)) fun v160 =>
bindO False (vField 1 v160) fun v161 =>
bindO False (vStore 1 v161 v159 σ154) fun σ162 =>
bindO False (vBin none .eql v69 (.int .u8 58)) fun v163 =>
guardG False v163 true (fun J164 =>
bindO False (vNil (x1 0)) fun v167 =>
bindO False (vField 1 v167) fun v168 =>
bindO False (vLoad false 1 v168 σ162) fun v169 =>
bindO False (vNil (x1 0)) fun v170 =>
bindO False (vField 0 v170) fun v171 =>
bindO False (vLoad false 1 v171 σ162) fun v172 =>
bindO False (vLen .str v172 σ162) fun v173 =>
bindO False (vBin none .lss v169 v173) fun v174 =>
J164 (lookE [(160, (.v (x1 0))), (161, (.v v167)), (162, (.v v168)), (163, (.v v169)), (164, (.v (x1 0))), (165, (.v v170)), (166, (.v v171)), (167, (.v v172)), (168, (.v v173)), (169, (.v v174))]) σ162) σ162 (fun y165 σ166 =>
bindO False (vPick v163 (y165 169).pv (.bool false)) fun v175 =>
guardG False v175 true (fun J176 =>
bindO False (vNil (x1 0)) fun v179 =>
bindO False (vField 0 v179) fun v180 =>
bindO False (vLoad false 1 v180 σ166) fun v181 =>
bindO False (vNil (x1 0)) fun v182 =>
bindO False (vField 1 v182) fun v183 =>
bindO False (vLoad false 1 v183 σ166) fun v184 =>
bindO False (vStrAt v181 v184) fun v185 =>
bindO False (vBin none .eql v185 (.int .u8 58)) fun v186 =>
J176 (lookE [(172, (.v (x1 0))), (173, (.v v179)), (174, (.v v180)), (175, (.v v181)), (176, (.v (x1 0))), (177, (.v v182)), (178, (.v v183)), (179, (.v v184)), (180, (.v v185)), (181, (.v v186))]) σ166) σ166 (fun y177 σ178 =>
bindO False (vPick v175 (y177 181).pv (.bool false)) fun v187 =>
condW v187 (
bindO False (vNil (x1 0)) fun v188 =>
bindO False (vField 1 v188) fun v189 =>
bindO False (vLoad false 1 v189 σ178) fun v190 =>
bindO False (vBin none .add v190 (.int .i64 1)) fun v191 =>
bindO False (vNil (x1 0)) fun v192 =>
bindO False (vField 1 v192) fun v193 =>
bindO False (vStore 1 v193 v191 σ178) fun σ194 =>
bindO False (vNil (x1 0)) fun v195 =>
bindO False (vField 0 v195) fun v196 =>
bindO False (vLoad false 1 v196 σ194) fun v197 =>
bindO False (vNil (x1 0)) fun v198 =>
bindO False (vField 2 v198) fun v199 =>
bindO False (vLoad false 1 v199 σ194) fun v200 =>
bindO False (vNil (x1 0)) fun v201 =>
bindO False (vField 1 v201) fun v202 =>
bindO False (vLoad false 1 v202 σ194) fun v203 =>
bindO False (vSubStr v197 (some v200) (some v203)) fun v204 =>
bindO False (vNil (x1 0)) fun v205 =>
bindO False (vField 4 v205) fun v206 =>
bindO False (vStore 1 v206 v204 σ194) fun σ207 =>
bindO False (vNil (x1 0)) fun v208 =>
bindO False (vField 1 v208) fun v209 =>
bindO False (vLoad false 1 v209 σ207) fun v210 =>
bindO False (vNil (x1 0)) fun v211 =>
bindO False (vField 3 v211) fun v212 =>
bindO False (vStore 1 v212 v210 σ207) fun σ213 =>
weakW σ (.tuple []) σ213 fun v σ => R (.ret v) σ) (
bindO False (vNil (x1 0)) fun v214 =>
bindO False (vField 0 v214) fun v215 =>
bindO False (vLoad false 1 v215 σ178) fun v216 =>
bindO False (vNil (x1 0)) fun v217 =>
bindO False (vField 2 v217) fun v218 =>
bindO False (vLoad false 1 v218 σ178) fun v219 =>
bindO False (vNil (x1 0)) fun v220 =>
bindO False (vField 1 v220) fun v221 =>
bindO False (vLoad false 1 v221 σ178) fun v222 =>
bindO False (vSubStr v216 (some v219) (some v222)) fun v223 =>
bindO False (vNil (x1 0)) fun v224 =>
bindO False (vField 4 v224) fun v225 =>
bindO False (vStore 1 v225 v223 σ178) fun σ226 =>
bindO False (vNil (x1 0)) fun v227 =>
bindO False (vField 1 v227) fun v228 =>
bindO False (vLoad false 1 v228 σ226) fun v229 =>
bindO False (vNil (x1 0)) fun v230 =>
bindO False (vField 3 v230) fun v231 =>
bindO False (vStore 1 v231 v229 σ226) fun σ232 =>
weakW σ (.tuple []) σ232 fun v σ => R (.ret v) σ)))) (
bindO False (vNil (x1 0)) fun v233 =>
bindO False (vField 2 v233) fun v234 =>
bindO False (vLoad false 1 v234 σ154) fun v235 =>
callB W 171 [(x1 0), v235, (.int .i64 2)] σ154 (fun v236 σ237 =>
bindO False (vNil (x1 0)) fun v238 =>
bindO False (vField 1 v238) fun v239 =>
bindO False (vLoad false 1 v239 σ237) fun v240 =>
bindO False (vNil (x1 0)) fun v241 =>
bindO False (vField 3 v241) fun v242 =>
bindO False (vStore 1 v242 v240 σ237) fun σ243 =>
weakW σ (.tuple []) σ243 fun v σ => R (.ret v) σ) (fun e244 σ245 => R (.pan e244) σ245))) (fun e246 σ247 => R (.pan e246) σ247))) (fun e248 σ249 => R (.pan e248) σ249))))) (lookP [(0, a0)]) σ

theorem fn136_eq (W : CallP) (a0 : PV) (σ : St) (R : Res → St → Prop) : bodyC (algP W) Tryz.prog annF 136 [a0] σ R = fn136 Tryz.prog W a0 σ R := by kernel_rfl

/-- environ/hyper.letter -/
def fn170 (Pr : Program) (W : CallP) (a0 : PV) (σ : St) (R : Res → St → Prop) : Prop :=
bindO False (vBin none .geq a0 (.int .u8 97)) fun v0 =>
guardG False v0 true (fun J1 =>
bindO False (vBin none .leq a0 (.int .u8 122)) fun v4 =>
J1 (lookE [(6, (.v a0)), (7, (.v v4))]) σ) σ (fun y2 σ3 =>
bindO False (vPick v0 (y2 7).pv (.bool false)) fun v5 =>
guardG False v5 false (fun J6 =>
bindO False (vBin none .geq a0 (.int .u8 65)) fun v9 =>
J6 (lookE [(10, (.v a0)), (11, (.v v9)), (12, (.v v9))]) σ3) σ3 (fun y7 σ8 =>
guardG False (y7 12).pv true (fun J10 =>
bindO False (vBin none .leq a0 (.int .u8 90)) fun v13 =>
J10 (lookE [(13, (.v a0)), (14, (.v v13))]) σ8) σ8 (fun y11 σ12 =>
guardG False v5 false (fun J14 =>
bindO False (vPick (y7 12).pv (y11 14).pv (.bool false)) fun v17 =>
J14 (lookE [(15, (.v v17))]) σ12) σ12 (fun y15 σ16 =>
bindO False (vPick v5 (.bool true) (y15 15).pv) fun v18 =>
guardG False v18 false (fun J19 =>
bindO False (vBin none .geq a0 (.int .u8 49)) fun v22 =>
J19 (lookE [(18, (.v a0)), (19, (.v v22)), (20, (.v v22))]) σ16) σ16 (fun y20 σ21 =>
guardG False (y20 20).pv true (fun J23 =>
bindO False (vBin none .leq a0 (.int .u8 57)) fun v26 =>
J23 (lookE [(21, (.v a0)), (22, (.v v26))]) σ21) σ21 (fun y24 σ25 =>
guardG False v18 false (fun J27 =>
bindO False (vPick (y20 20).pv (y24 22).pv (.bool false)) fun v30 =>
J27 (lookE [(23, (.v v30))]) σ25) σ25 (fun y28 σ29 =>
bindO False (vPick v18 (.bool true) (y28 23).pv) fun v31 =>
weakW σ v31 σ29 fun v σ => R (.ret v) σ)))))))

theorem fn170_eq (W : CallP) (a0 : PV) (σ : St) (R : Res → St → Prop) : bodyC (algP W) Tryz.prog annF 170 [a0] σ R = fn170 Tryz.prog W a0 σ R := by kernel_rfl

/-- (*environ/hyper.reader).fail -/
def fn171 (Pr : Program) (W : CallP) (a0 a1 a2 : PV) (σ : St) (R : Res → St → Prop) : Prop :=
bindO False (vBuild [(.int .i64 0), (.int .i64 0)] [(0, 1, a1), (1, 1, a2)]) fun v0 =>
panW (.iface 41 (.agg v0)) fun v1 => R (.pan v1) σ

theorem fn171_eq (W : CallP) (a0 a1 a2 : PV) (σ : St) (R : Res → St → Prop) : bodyC (algP W) Tryz.prog annF 171 [a0, a1, a2] σ R = fn171 Tryz.prog W a0 a1 a2 σ R := by kernel_rfl

/-- (*environ/hyper.reader).part -/
def fn172 (Pr : Program) (W : CallP) (a0 : PV) (σ : St) (R : Res → St → Prop) : Prop :=
bindO False (vNil a0) fun v0 =>
bindO False (vField 5 v0) fun v1 =>
bindO False (vLoad false 1 v1 σ) fun v2 =>
bindO False (vUn .not v2) fun v3 =>
guardG False v3 true (fun J4 =>
bindO False (vNil a0) fun v7 =>
bindO False (vField 4 v7) fun v8 =>
bindO False (vLoad false 1 v8 σ) fun v9 =>
bindO False (vBin none .eql v9 (.str [])) fun v10 =>
J4 (lookE [(9, (.v a0)), (10, (.v v7)), (11, (.v v8)), (12, (.v v9)), (13, (.v v10))]) σ) σ (fun y5 σ6 =>
bindO False (vPick v3 (y5 13).pv (.bool false)) fun v11 =>
weakW σ v11 σ6 fun v σ => R (.ret v) σ)

theorem fn172_eq (W : CallP) (a0 : PV) (σ : St) (R : Res → St → Prop) : bodyC (algP W) Tryz.prog annF 172 [a0] σ R = fn172 Tryz.prog W a0 σ R := by kernel_rfl

/-- (*environ/hyper.reader).nothing -/
def fn173 (Pr : Program) (W : CallP) (a0 : PV) (σ : St) (R : Res → St → Prop) : Prop :=
callB W 172 [a0] σ (fun v0 σ1 =>
bindO False (vUn .not v0) fun v2 =>
guardG False v2 false (fun J3 =>
bindO False (vNil a0) fun v6 =>
bindO False (vField 0 v6) fun v7 =>
bindO False (vLoad false 1 v7 σ1) fun v8 =>
bindO False (vNil a0) fun v9 =>
bindO False (vField 2 v9) fun v10 =>
bindO False (vLoad false 1 v10 σ1) fun v11 =>
bindO False (vNil a0) fun v12 =>
bindO False (vField 3 v12) fun v13 =>
bindO False (vLoad false 1 v13 σ1) fun v14 =>
bindO False (vSubStr v8 (some v11) (some v14)) fun v15 =>
bindO False (vBin none .neq v15 (.str [69, 77, 80, 84, 89])) fun v16 =>
J3 (lookE [(7, (.v a0)), (8, (.v v6)), (9, (.v v7)), (10, (.v v8)), (11, (.v a0)), (12, (.v v9)), (13, (.v v10)), (14, (.v v11)), (15, (.v a0)), (16, (.v v12)), (17, (.v v13)), (18, (.v v14)), (19, (.v v15)), (20, (.v v16))]) σ1) σ1 (fun y4 σ5 =>
bindO False (vPick v2 (.bool true) (y4 20).pv) fun v17 =>
condW v17 (
weakW σ (.bool false) σ5 fun v σ => R (.ret v) σ) (
callB W 136 [a0] σ5 (fun v18 σ19 =>
weakW σ (.bool true) σ19 fun v σ => R (.ret v) σ) (fun e20 σ21 => R (.pan e20) σ21)))) (fun e22 σ23 => R (.pan e22) σ23)

theorem fn173_eq (W : CallP) (a0 : PV) (σ : St) (R : Res → St → Prop) : bodyC (algP W) Tryz.prog annF 173 [a0] σ R = fn173 Tryz.prog W a0 σ R := by kernel_rfl

/-- (*environ/hyper.reader).wrong -/
def fn140 (Pr : Program) (W : CallP) (a0 : PV) (σ : St) (R : Res → St → Prop) : Prop :=
bindO False (vNil a0) fun v0 =>
bindO False (vField 5 v0) fun v1 =>
bindO False (vLoad false 1 v1 σ) fun v2 =>
condW v2 (
bindO False (vNil a0) fun v3 =>
bindO False (vField 0 v3) fun v4 =>
bindO False (vLoad false 1 v4 σ) fun v5 =>
bindO False (vLen .str v5 σ) fun v6 =>
callB W 171 [a0, v6, (.int .i64 16)] σ (fun v7 σ8 =>
bindO False (vNil a0) fun v9 =>
bindO False (vField 2 v9) fun v10 =>
bindO False (vLoad false 1 v10 σ8) fun v11 =>
callB W 171 [a0, v11, (.int .i64 9)] σ8 (fun v12 σ13 =>
weakW σ (.tuple []) σ13 fun v σ => R (.ret v) σ) (fun e14 σ15 => R (.pan e14) σ15)) (fun e16 σ17 => R (.pan e16) σ17)) (
bindO False (vNil a0) fun v18 =>
bindO False (vField 2 v18) fun v19 =>
bindO False (vLoad false 1 v19 σ) fun v20 =>
callB W 171 [a0, v20, (.int .i64 9)] σ (fun v21 σ22 =>
weakW σ (.tuple []) σ22 fun v σ => R (.ret v) σ) (fun e23 σ24 => R (.pan e23) σ24))

theorem fn140_eq (W : CallP) (a0 : PV) (σ : St) (R : Res → St → Prop) : bodyC (algP W) Tryz.prog annF 140 [a0] σ R = fn140 Tryz.prog W a0 σ R := by kernel_rfl

/-- (*environ/hyper.reader).parts -/
def fn137 (Pr : Program) (W : CallP) (a0 a1 : PV) (σ : St) (R : Res → St → Prop) : Prop :=
Lfp σ (fun Φ0 x1 σ2 =>
callB W 172 [(x1 0)] σ2 (fun v3 σ4 =>
condW v3 (
bindO False (vNil (x1 0)) fun v5 =>
bindO False (vField 0 v5) fun v6 =>
bindO False (vLoad false 1 v6 σ4) fun v7 =>
bindO False (vNil (x1 0)) fun v8 =>
bindO False (vField 2 v8) fun v9 =>
bindO False (vLoad false 1 v9 σ4) fun v10 =>
bindO False (vNil (x1 0)) fun v11 =>
bindO False (vField 3 v11) fun v12 =>
bindO False (vLoad false 1 v12 σ4) fun v13 =>
bindO False (vSubStr v7 (some v10) (some v13)) fun v14 =>
bindO False (vBuild [(.bool false), (.str [])] [(1, 1, v14)]) fun v15 =>
bindO False (vPut 2 (.agg [(.bool false), (.str [])]) 0 (.agg v15)) fun z16 =>
bindO False (vPart false 1 z16 1) fun v17 =>
callB W 125 [v17] σ4 (fun v18 σ19 =>
bindO False (vUn .not v18) fun v20 =>
bindO False (vPut 1 z16 0 v20) fun z21 =>
bindO False (vPart false 1 z21 1) fun v22 =>
bindO False (vBin none .eql v22 (.str [69, 77, 80, 84, 89])) fun v23 =>
condW v23 (
callB W 140 [(x1 0)] σ19 (fun v24 σ25 =>
bindO False (vPart false 1 z21 0) fun v26 =>
guardG False v26 true (fun J27 =>
bindO False (vUn .not (x1 1)) fun v30 =>
J27 (lookE [(36, (.v (x1 1))), (37, (.v v30))]) σ25) σ25 (fun y28 σ29 =>
bindO False (vPick v26 (y28 37).pv (.bool false)) fun v31 =>
guardG False v31 true (fun J32 =>
bindO False (vPart false 1 z21 1) fun v35 =>
callB W 57 [v35] σ29 (fun v36 σ37 =>
bindO False (vUn .not v36) fun v38 =>
J32 (lookE [(40, (.loc 6 1)), (41, (.v v35)), (42, (.v v36)), (43, (.v v38))]) σ37) (fun e39 σ40 => R (.pan e39) σ40)) σ29 (fun y33 σ34 =>
bindO False (vPick v31 (y33 43).pv (.bool false)) fun v41 =>
condW v41 (
bindO False (vNil (x1 0)) fun v42 =>
bindO False (vField 2 v42) fun v43 =>
bindO False (vLoad false 1 v43 σ34) fun v44 =>
callB W 171 [(x1 0), v44, (.int .i64 8)] σ34 (fun v45 σ46 =>
bindO False (vPart true 2 z21 0) fun v47 =>
bindO False (vBuildSl 2 (List.replicate 1 (.agg [(.bool false), (.str [])])) [(0, v47)]) fun v48 =>
bindS (vAppend 2 24 (x1 5) (.list .full v48) σ46) fun v49 σ50 =>
callB W 136 [(x1 0)] σ50 (fun v51 σ52 =>
Φ0 (lookP [(0, (x1 0)), (1, (x1 1)), (5, v49)]) σ52) (fun e53 σ54 => R (.pan e53) σ54)) (fun e55 σ56 => R (.pan e55) σ56)) (
bindO False (vPart true 2 z21 0) fun v57 =>
bindO False (vBuildSl 2 (List.replicate 1 (.agg [(.bool false), (.str [])])) [(0, v57)]) fun v58 =>
bindS (vAppend 2 24 (x1 5) (.list .full v58) σ34) fun v59 σ60 =>
callB W 136 [(x1 0)] σ60 (fun v61 σ62 =>
Φ0 (lookP [(0, (x1 0)), (1, (x1 1)), (5, v59)]) σ62) (fun e63 σ64 => R (.pan e63) σ64))))) (fun e65 σ66 => R (.pan e65) σ66)) (
bindO False (vPart false 1 z21 0) fun v67 =>
guardG False v67 true (fun J68 =>
bindO False (vUn .not (x1 1)) fun v71 =>
J68 (lookE [(36, (.v (x1 1))), (37, (.v v71))]) σ19) σ19 (fun y69 σ70 =>
bindO False (vPick v67 (y69 37).pv (.bool false)) fun v72 =>
guardG False v72 true (fun J73 =>
bindO False (vPart false 1 z21 1) fun v76 =>
callB W 57 [v76] σ70 (fun v77 σ78 =>
bindO False (vUn .not v77) fun v79 =>
J73 (lookE [(40, (.loc 6 1)), (41, (.v v76)), (42, (.v v77)), (43, (.v v79))]) σ78) (fun e80 σ81 => R (.pan e80) σ81)) σ70 (fun y74 σ75 =>
bindO False (vPick v72 (y74 43).pv (.bool false)) fun v82 =>
condW v82 (
bindO False (vNil (x1 0)) fun v83 =>
bindO False (vField 2 v83) fun v84 =>
bindO False (vLoad false 1 v84 σ75) fun v85 =>
callB W 171 [(x1 0), v85, (.int .i64 8)] σ75 (fun v86 σ87 =>
bindO False (vPart true 2 z21 0) fun v88 =>
bindO False (vBuildSl 2 (List.replicate 1 (.agg [(.bool false), (.str [])])) [(0, v88)]) fun v89 =>
bindS (vAppend 2 24 (x1 5) (.list .full v89) σ87) fun v90 σ91 =>
callB W 136 [(x1 0)] σ91 (fun v92 σ93 =>
Φ0 (lookP [(0, (x1 0)), (1, (x1 1)), (5, v90)]) σ93) (fun e94 σ95 => R (.pan e94) σ95)) (fun e96 σ97 => R (.pan e96) σ97)) (
bindO False (vPart true 2 z21 0) fun v98 =>
bindO False (vBuildSl 2 (List.replicate 1 (.agg [(.bool false), (.str [])])) [(0, v98)]) fun v99 =>
bindS (vAppend 2 24 (x1 5) (.list .full v99) σ75) fun v100 σ101 =>
callB W 136 [(x1 0)] σ101 (fun v102 σ103 =>
Φ0 (lookP [(0, (x1 0)), (1, (x1 1)), (5, v100)]) σ103) (fun e104 σ105 => R (.pan e104) σ105)))))) (fun e106 σ107 => R (.pan e106) σ107)) (
weakW σ (x1 5) σ4 fun v σ => R (.ret v) σ)) (fun e108 σ109 => R (.pan e108) σ109)) (lookP [(0, a0), (1, a1), (5, (.list .nil []))]) σ

theorem fn137_eq (W : CallP) (a0 a1 : PV) (σ : St) (R : Res → St → Prop) : bodyC (algP W) Tryz.prog annF 137 [a0, a1] σ R = fn137 Tryz.prog W a0 a1 σ R := by kernel_rfl

/-- (*environ/hyper.reader).meta -/
def fn138 (Pr : Program) (W : CallP) (a0 a1 : PV) (σ : St) (R : Res → St → Prop) : Prop :=
bindO False (vBuild [(.str []), (.list .nil [])] [(0, 1, a1)]) fun v0 =>
bindO False (vPut 2 (.agg [(.str []), (.list .nil [])]) 0 (.agg v0)) fun z1 =>
Lfp σ (fun Φ2 x3 σ4 =>
callB W 136 [(x3 0)] σ4 (fun v5 σ6 =>
callB W 173 [(x3 0)] σ6 (fun v7 σ8 =>
bindO False (vUn .not v7) fun v9 =>
condW v9 (
callB W 137 [(x3 0), (.bool false)] σ8 (fun v10 σ11 =>
bindO False (vLen .sl v10 σ11) fun v12 =>
bindO False (vBin none .eql v12 (.int .i64 0)) fun v13 =>
condW v13 (
callB W 140 [(x3 0)] σ11 (fun v14 σ15 =>
bindO False (vPart false 1 (x3 5) 1) fun v16 =>
bindO False (vBuildSl 1 (List.replicate 1 (.list .nil [])) [(0, v10)]) fun v17 =>
bindS (vAppend 1 24 v16 (.list .full v17) σ15) fun v18 σ19 =>
bindO False (vPut 1 (x3 5) 1 v18) fun z20 =>
bindO False (vNil (x3 0)) fun v21 =>
bindO False (vField 4 v21) fun v22 =>
bindO False (vLoad false 1 v22 σ19) fun v23 =>
bindO False (vBin none .neq v23 (.str [59])) fun v24 =>
condW v24 (
bindO False (vPart true 2 z20 0) fun v25 =>
bindO False (vPut 2 (x3 4) 0 v25) fun z26 =>
bindO False (resCons (vPart true 2 z26 0) (some [])) fun vs => weakW σ (vResults vs) σ19 fun v σ => R (.ret v) σ) (
Φ2 (lookP [(0, (x3 0)), (4, (x3 4)), (5, z20)]) σ19)) (fun e27 σ28 => R (.pan e27) σ28)) (
bindO False (vPart false 1 (x3 5) 1) fun v29 =>
bindO False (vBuildSl 1 (List.replicate 1 (.list .nil [])) [(0, v10)]) fun v30 =>
bindS (vAppend 1 24 v29 (.list .full v30) σ11) fun v31 σ32 =>
bindO False (vPut 1 (x3 5) 1 v31) fun z33 =>
bindO False (vNil (x3 0)) fun v34 =>
bindO False (vField 4 v34) fun v35 =>
bindO False (vLoad false 1 v35 σ32) fun v36 =>
bindO False (vBin none .neq v36 (.str [59])) fun v37 =>
condW v37 (
bindO False (vPart true 2 z33 0) fun v38 =>
bindO False (vPut 2 (x3 4) 0 v38) fun z39 =>
bindO False (resCons (vPart true 2 z39 0) (some [])) fun vs => weakW σ (vResults vs) σ32 fun v σ => R (.ret v) σ) (
Φ2 (lookP [(0, (x3 0)), (4, (x3 4)), (5, z33)]) σ32))) (fun e40 σ41 => R (.pan e40) σ41)) (
callB W 172 [(x3 0)] σ8 (fun v42 σ43 =>
condW v42 (
bindO False (vNil (x3 0)) fun v44 =>
bindO False (vField 0 v44) fun v45 =>
bindO False (vLoad false 1 v45 σ43) fun v46 =>
bindO False (vNil (x3 0)) fun v47 =>
bindO False (vField 2 v47) fun v48 =>
bindO False (vLoad false 1 v48 σ43) fun v49 =>
bindO False (vNil (x3 0)) fun v50 =>
bindO False (vField 3 v50) fun v51 =>
bindO False (vLoad false 1 v51 σ43) fun v52 =>
bindO False (vSubStr v46 (some v49) (some v52)) fun v53 =>
bindO False (vBin none .neq v53 (.str [69, 77, 80, 84, 89])) fun v54 =>
guardG False v54 true (fun J55 =>
callB W 125 [v53] σ43 (fun v58 σ59 =>
bindO False (vUn .not v58) fun v60 =>
J55 (lookE [(40, (.v v53)), (41, (.v v58)), (42, (.v v60))]) σ59) (fun e61 σ62 => R (.pan e61) σ62)) σ43 (fun y56 σ57 =>
bindO False (vPick v54 (y56 42).pv (.bool false)) fun v63 =>
guardG False v63 true (fun J64 =>
callB W 57 [v53] σ57 (fun v67 σ68 =>
bindO False (vUn .not v67) fun v69 =>
J64 (lookE [(45, (.v v53)), (46, (.v v67)), (47, (.v v69))]) σ68) (fun e70 σ71 => R (.pan e70) σ71)) σ57 (fun y65 σ66 =>
bindO False (vPick v63 (y65 47).pv (.bool false)) fun v72 =>
condW v72 (
bindO False (vNil (x3 0)) fun v73 =>
bindO False (vField 2 v73) fun v74 =>
bindO False (vLoad false 1 v74 σ66) fun v75 =>
callB W 171 [(x3 0), v75, (.int .i64 8)] σ66 (fun v76 σ77 =>
callB W 140 [(x3 0)] σ77 (fun v78 σ79 =>
bindO False (vPart false 1 (x3 5) 1) fun v80 =>
bindO False (vBuildSl 1 (List.replicate 1 (.list .nil [])) [(0, (.list .nil []))]) fun v81 =>
bindS (vAppend 1 24 v80 (.list .full v81) σ79) fun v82 σ83 =>
bindO False (vPut 1 (x3 5) 1 v82) fun z84 =>
bindO False (vNil (x3 0)) fun v85 =>
bindO False (vField 4 v85) fun v86 =>
bindO False (vLoad false 1 v86 σ83) fun v87 =>
bindO False (vBin none .neq v87 (.str [59])) fun v88 =>
condW v88 (
bindO False (vPart true 2 z84 0) fun v89 =>
bindO False (vPut 2 (x3 4) 0 v89) fun z90 =>
bindO False (resCons (vPart true 2 z90 0) (some [])) fun vs => weakW σ (vResults vs) σ83 fun v σ => R (.ret v) σ) (
Φ2 (lookP [(0, (x3 0)), (4, (x3 4)), (5, z84)]) σ83)) (fun e91 σ92 => R (.pan e91) σ92)) (fun e93 σ94 => R (.pan e93) σ94)) (
callB W 140 [(x3 0)] σ66 (fun v95 σ96 =>
bindO False (vPart false 1 (x3 5) 1) fun v97 =>
bindO False (vBuildSl 1 (List.replicate 1 (.list .nil [])) [(0, (.list .nil []))]) fun v98 =>
bindS (vAppend 1 24 v97 (.list .full v98) σ96) fun v99 σ100 =>
bindO False (vPut 1 (x3 5) 1 v99) fun z101 =>
bindO False (vNil (x3 0)) fun v102 =>
bindO False (vField 4 v102) fun v103 =>
bindO False (vLoad false 1 v103 σ100) fun v104 =>
bindO False (vBin none .neq v104 (.str [59])) fun v105 =>
condW v105 (
bindO False (vPart true 2 z101 0) fun v106 =>
bindO False (vPut 2 (x3 4) 0 v106) fun z107 =>
bindO False (resCons (vPart true 2 z107 0) (some [])) fun vs => weakW σ (vResults vs) σ100 fun v σ => R (.ret v) σ) (
Φ2 (lookP [(0, (x3 0)), (4, (x3 4)), (5, z101)]) σ100)) (fun e108 σ109 => R (.pan e108) σ109))))) (
bindO False (vPart false 1 (x3 5) 1) fun v110 =>
bindO False (vBuildSl 1 (List.replicate 1 (.list .nil [])) [(0, (.list .nil []))]) fun v111 =>
bindS (vAppend 1 24 v110 (.list .full v111) σ43) fun v112 σ113 =>
bindO False (vPut 1 (x3 5) 1 v112) fun z114 =>
bindO False (vNil (x3 0)) fun v115 =>
bindO False (vField 4 v115) fun v116 =>
bindO False (vLoad false 1 v116 σ113) fun v117 =>
bindO False (vBin none .neq v117 (.str [59])) fun v118 =>
condW v118 (
bindO False (vPart true 2 z114 0) fun v119 =>
bindO False (vPut 2 (x3 4) 0 v119) fun z120 =>
bindO False (resCons (vPart true 2 z120 0) (some [])) fun vs => weakW σ (vResults vs) σ113 fun v σ => R (.ret v) σ) (
Φ2 (lookP [(0, (x3 0)), (4, (x3 4)), (5, z114)]) σ113))) (fun e121 σ122 => R (.pan e121) σ122))) (fun e123 σ124 => R (.pan e123) σ124)) (fun e125 σ126 => R (.pan e125) σ126)) (lookP [(0, a0), (4, (.agg [(.str []), (.list .nil [])])), (5, z1)]) σ

theorem fn138_eq (W : CallP) (a0 a1 : PV) (σ : St) (R : Res → St → Prop) : bodyC (algP W) Tryz.prog annF 138 [a0, a1] σ R = fn138 Tryz.prog W a0 a1 σ R := by kernel_rfl

/-- (*environ/hyper.reader).rules -/
def fn139 (Pr : Program) (W : CallP) (a0 a1 : PV) (σ : St) (R : Res → St → Prop) : Prop :=
Lfp σ (fun Φ0 x1 σ2 =>
callB W 136 [(x1 0)] σ2 (fun v3 σ4 =>
callB W 38 [(x1 1)] σ4 (fun v5 σ6 =>
bindO False (vBuild [(.list .nil []), (.list .nil [])] [(0, 1, v5)]) fun v7 =>
bindO False (vPut 2 (.agg [(.list .nil []), (.list .nil [])]) 0 (.agg v7)) fun z8 =>
callB W 173 [(x1 0)] σ6 (fun v9 σ10 =>
bindO False (vUn .not v9) fun v11 =>
condW v11 (
Lfp σ (fun Φ12 x13 σ14 =>
callB W 137 [(x13 0), (.bool true)] σ14 (fun v15 σ16 =>
bindO False (vLen .sl v15 σ16) fun v17 =>
bindO False (vBin none .eql v17 (.int .i64 0)) fun v18 =>
condW v18 (
callB W 140 [(x13 0)] σ16 (fun v19 σ20 =>
bindO False (vPart false 1 (x13 6) 1) fun v21 =>
bindO False (vBuildSl 1 (List.replicate 1 (.list .nil [])) [(0, v15)]) fun v22 =>
bindS (vAppend 1 24 v21 (.list .full v22) σ20) fun v23 σ24 =>
bindO False (vPut 1 (x13 6) 1 v23) fun z25 =>
bindO False (vNil (x13 0)) fun v26 =>
bindO False (vField 4 v26) fun v27 =>
bindO False (vLoad false 1 v27 σ24) fun v28 =>
bindO False (vBin none .neq v28 (.str [44])) fun v29 =>
condW v29 (
bindO False (vPart true 2 z25 0) fun v30 =>
bindO False (vBuildSl 2 (List.replicate 1 (.agg [(.list .nil []), (.list .nil [])])) [(0, v30)]) fun v31 =>
bindS (vAppend 2 48 (x13 5) (.list .full v31) σ24) fun v32 σ33 =>
bindO False (vNil (x13 0)) fun v34 =>
bindO False (vField 4 v34) fun v35 =>
bindO False (vLoad false 1 v35 σ33) fun v36 =>
bindO False (vBin none .neq v36 (.str [59])) fun v37 =>
condW v37 (
weakW σ v32 σ33 fun v σ => R (.ret v) σ) (
Φ0 (lookP [(0, (x13 0)), (1, (x13 1)), (5, v32)]) σ33)) (
callB W 136 [(x13 0)] σ24 (fun v38 σ39 =>
Φ12 (lookP [(0, (x13 0)), (1, (x13 1)), (5, (x13 5)), (6, z25)]) σ39) (fun e40 σ41 => R (.pan e40) σ41))) (fun e42 σ43 => R (.pan e42) σ43)) (
bindO False (vPart false 1 (x13 6) 1) fun v44 =>
bindO False (vBuildSl 1 (List.replicate 1 (.list .nil [])) [(0, v15)]) fun v45 =>
bindS (vAppend 1 24 v44 (.list .full v45) σ16) fun v46 σ47 =>
bindO False (vPut 1 (x13 6) 1 v46) fun z48 =>
bindO False (vNil (x13 0)) fun v49 =>
bindO False (vField 4 v49) fun v50 =>
bindO False (vLoad false 1 v50 σ47) fun v51 =>
bindO False (vBin none .neq v51 (.str [44])) fun v52 =>
condW v52 (
bindO False (vPart true 2 z48 0) fun v53 =>
bindO False (vBuildSl 2 (List.replicate 1 (.agg [(.list .nil []), (.list .nil [])])) [(0, v53)]) fun v54 =>
bindS (vAppend 2 48 (x13 5) (.list .full v54) σ47) fun v55 σ56 =>
bindO False (vNil (x13 0)) fun v57 =>
bindO False (vField 4 v57) fun v58 =>
bindO False (vLoad false 1 v58 σ56) fun v59 =>
bindO False (vBin none .neq v59 (.str [59])) fun v60 =>
condW v60 (
weakW σ v55 σ56 fun v σ => R (.ret v) σ) (
Φ0 (lookP [(0, (x13 0)), (1, (x13 1)), (5, v55)]) σ56)) (
callB W 136 [(x13 0)] σ47 (fun v61 σ62 =>
Φ12 (lookP [(0, (x13 0)), (1, (x13 1)), (5, (x13 5)), (6, z48)]) σ62) (fun e63 σ64 => R (.pan e63) σ64)))) (fun e65 σ66 => R (.pan e65) σ66)) (lookP [(0, (x1 0)), (1, (x1 1)), (5, (x1 5)), (6, z8)]) σ10) (
bindO False (vPart true 2 z8 0) fun v67 =>
bindO False (vBuildSl 2 (List.replicate 1 (.agg [(.list .nil []), (.list .nil [])])) [(0, v67)]) fun v68 =>
bindS (vAppend 2 48 (x1 5) (.list .full v68) σ10) fun v69 σ70 =>
bindO False (vNil (x1 0)) fun v71 =>
bindO False (vField 4 v71) fun v72 =>
bindO False (vLoad false 1 v72 σ70) fun v73 =>
bindO False (vBin none .neq v73 (.str [59])) fun v74 =>
condW v74 (
weakW σ v69 σ70 fun v σ => R (.ret v) σ) (
Φ0 (lookP [(0, (x1 0)), (1, (x1 1)), (5, v69)]) σ70))) (fun e75 σ76 => R (.pan e75) σ76)) (fun e77 σ78 => R (.pan e77) σ78)) (fun e79 σ80 => R (.pan e79) σ80)) (lookP [(0, a0), (1, a1), (5, (.list .nil []))]) σ

theorem fn139_eq (W : CallP) (a0 a1 : PV) (σ : St) (R : Res → St → Prop) : bodyC (algP W) Tryz.prog annF 139 [a0, a1] σ R = fn139 Tryz.prog W a0 a1 σ R := by kernel_rfl

/-- slices.Clone[[]environ/hyper.Part,environ/hyper.Part] -/
def fn38 (Pr : Program) (W : CallP) (a0 : PV) (σ : St) (R : Res → St → Prop) : Prop :=
bindO False (vBin (some .sl) .eql a0 (.list .nil [])) fun v0 =>
condW v0 (
weakW σ (.list .nil []) σ fun v σ => R (.ret v) σ) (
bindO False (vBuildSl 2 (List.replicate 0 (.agg [(.bool false), (.str [])])) []) fun v1 =>
bindS (vAppend 2 24 (.list .full v1) a0 σ) fun v2 σ3 =>
weakW σ v2 σ3 fun v σ => R (.ret v) σ)

theorem fn38_eq (W : CallP) (a0 : PV) (σ : St) (R : Res → St → Prop) : bodyC (algP W) Tryz.prog annF 38 [a0] σ R = fn38 Tryz.prog W a0 σ R := by kernel_rfl

end Go.Proofs.YtiniifbmeobmgaaGreatDoor
