import Derived.KernelRfl
import Derived.Test.YtgghfcchanilpaaGreatDoorAnn
import Derived.Test.YtgghfcchanilpaaGreatDoorProg
set_option linter.unusedVariables false
set_option linter.unusedSimpArgs false
namespace Go.Proofs.YtgghfcchanilpaaGreatDoor
open Go Go.Abs
def fn63 (Pr : Program) (W : CallP) (a0 a1 : PV) (σ : St) (R : Res → St → Prop) : Prop :=
oF (opC.vBoxAny a0) fun z0 =>
oF (vPart false 1 z0.2 4) fun v1 =>
oF (vIndex 12 v1 a1) fun v2 =>
oF (vLoad true 12 v2 σ) fun v3 =>
oF (vPut 12 (.agg [(.int .i64 0),(.int .i64 0),(.int .i64 0),(.int .i64 0),(.int .i64 0),(.int .i64 0),(.int .i64 0),(.int .i64 0),(.int .i64 0),(.int .i64 0),(.int .i64 0),(.int .i64 0)]) 0 v3) fun z4 =>
oF (vPart false 1 z4 0) fun v5 =>
callB W 39 [v5] σ (fun v6 σ7 =>
oF (vUn .not v6) fun v8 =>
condW v8 (
wkR σ (.int .i64 13) σ7 R) (
oF (vPart true 12 z0.2 0) fun v9 =>
callB W 72 [v9,a1] σ7 (fun v10 σ11 =>
oF (vPart false 1 z4 0) fun v12 =>
oF (vArrOff 2 40 v12) fun k13 =>
oF (vField k13 (globPV 0)) fun v14 =>
oF (vField 1 v14) fun v15 =>
oF (vLoad false 1 v15 σ11) fun v16 =>
oF (vPart true 3 z4 1) fun v17 =>
oF (vPart true 3 z4 4) fun v18 =>
oF (vPart true 3 z4 7) fun v19 =>
oF (vBuildSl 3 (List.replicate 3 (.agg [(.int .i64 0),(.int .i64 0),(.int .i64 0)])) [(0,v17),(1,v18),(2,v19)]) fun v20 =>
oF (vLen .sl (.list .full v20) σ11) fun v21 =>
packW [(6,v10),(7,v16),(34,(.list .full v20)),(35,v21),(36,(.int .i64 0)),(2,z0.2),(5,z4)] fun x65 =>
Lfp σ (fun Φ22 x23 σ24 =>
oF (vBin none .lss (x23 36) (x23 35)) fun v25 =>
condW v25 (
oF (vIndex 3 (x23 34) (x23 36)) fun v26 =>
oF (vLoad true 3 v26 σ24) fun v27 =>
oF (vPut 3 (.agg [(.int .i64 0),(.int .i64 0),(.int .i64 0)]) 0 v27) fun z28 =>
oF (vPart true 12 (x23 2) 0) fun v29 =>
oF (vPart true 3 z28 0) fun v30 =>
oF (vStrAt (x23 7) (x23 36)) fun v31 =>
callB W 118 [v29,v30,v31,(x23 6)] σ24 (fun v32 σ33 =>
oF (vUn .not v32) fun v34 =>
condW v34 (
wkR σ (.int .i64 7) σ33 R) (
oF (vBin none .add (x23 36) (.int .i64 1)) fun v35 =>
packW [(6,(x23 6)),(7,(x23 7)),(34,(x23 34)),(35,(x23 35)),(36,v35),(2,(x23 2)),(5,(x23 5))] fun x36 => Φ22 x36 σ33)) (pNR R)) (
oF (vPart true 12 (x23 2) 0) fun v39 =>
oF (vPart true 12 (x23 5) 0) fun v40 =>
oF (vStrAt (x23 7) (.int .i64 3)) fun v41 =>
callB W 119 [v39,v40,v41,(x23 6)] σ24 (fun v42 σ43 =>
oF (vUn .not v42) fun v44 =>
if true = true then guardG False v44 false (fun J45 =>
oF (vPart true 12 (x23 2) 0) fun v48 =>
oF (vPart true 12 (x23 5) 0) fun v49 =>
oF (vStrAt (x23 7) (.int .i64 4)) fun v50 =>
callB W 120 [v48,v49,v50,(x23 6)] σ43 (fun v51 σ52 =>
oF (vUn .not v51) fun v53 =>
J45 (lookE [(58,(.v v48)),(59,(.v v49)),(60,(.v (x23 7))),(61,(.v v50)),(62,(.v (x23 6))),(63,(.v v51)),(64,(.v v53))]) σ52) (pNR R)) σ43 (fun y46 σ47 =>
oF (vPick v44 (.bool true) (y46 64).pv) fun v56 =>
condW v56 (
wkR σ (.int .i64 11) σ47 R) (
oF (vPart true 12 (x23 2) 0) fun v57 =>
oF (vPart true 12 (x23 5) 0) fun v58 =>
callB W 121 [v57,v58,(x23 6)] σ47 (fun v59 σ60 =>
wkR σ v59 σ60 R) (pNR R))) else False) (pNR R))) x65 σ11) (pNR R))) (pNR R)
theorem fn63_eq (W : CallP) (a0 a1 : PV) (σ : St) (R : Res → St → Prop) : bodyC (algP W) Tryz.prog annF 63 [a0,a1] σ R = fn63 Tryz.prog W a0 a1 σ R := by kernel_rfl
def fn66 (Pr : Program) (W : CallP) (a0 a1 : PV) (σ : St) (R : Res → St → Prop) : Prop :=
oF (opC.vBoxAny a0) fun z0 =>
oF (vPart false 1 z0.2 3) fun v1 =>
oF (vIndex 9 v1 a1) fun v2 =>
oF (vLoad true 9 v2 σ) fun v3 =>
oF (vPut 9 (.agg [(.int .i64 0),(.int .i64 0),(.int .i64 0),(.int .i64 0),(.int .i64 0),(.int .i64 0),(.int .i64 0),(.int .i64 0),(.list .nil [])]) 0 v3) fun z4 =>
oF (vPart false 1 z4 0) fun v5 =>
oF (vPart false 1 z0.2 2) fun v6 =>
oF (vLen .sl v6 σ) fun v7 =>
callB W 75 [v5,v7] σ (fun v8 σ9 =>
oF (vUn .not v8) fun v10 =>
if true = true then guardG False v10 false (fun J11 =>
oF (vPart false 1 z4 1) fun v14 =>
oF (vPart false 1 z0.2 0) fun v15 =>
oF (vLen .sl v15 σ9) fun v16 =>
callB W 75 [v14,v16] σ9 (fun v17 σ18 =>
oF (vUn .not v17) fun v19 =>
J11 (lookE [(25,(.loc 5 1)),(26,(.v v14)),(27,(.loc 2 0)),(28,(.v v15)),(29,(.v v16)),(30,(.v v17)),(31,(.v v19))]) σ18) (pNR R)) σ9 (fun y12 σ13 =>
oF (vPick v10 (.bool true) (y12 31).pv) fun v22 =>
if true = true then guardG False v22 false (fun J23 =>
oF (vBin none .eql a1 (.int .i64 0)) fun v26 =>
J23 (lookE [(34,(.v a1)),(35,(.v v26)),(36,(.v v26))]) σ13) σ13 (fun y24 σ25 =>
if true = true then guardG False (y24 36).pv true (fun J27 =>
oF (vPart false 1 z4 4) fun v30 =>
oF (vBin none .neq v30 (.int .i64 (-1))) fun v31 =>
J27 (lookE [(37,(.loc 5 4)),(38,(.v v30)),(39,(.v v31))]) σ25) σ25 (fun y28 σ29 =>
if true = true then guardG False v22 false (fun J32 =>
oF (vPick (y24 36).pv (y28 39).pv (.bool false)) fun v35 =>
J32 (lookE [(40,(.v v35))]) σ29) σ29 (fun y33 σ34 =>
oF (vPick v22 (.bool true) (y33 40).pv) fun v36 =>
if true = true then guardG False v36 false (fun J37 =>
oF (vBin none .gtr a1 (.int .i64 0)) fun v40 =>
J37 (lookE [(43,(.v a1)),(44,(.v v40)),(45,(.v v40))]) σ34) σ34 (fun y38 σ39 =>
if true = true then guardG False (y38 45).pv true (fun J41 =>
oF (vPart false 1 z4 4) fun v44 =>
callB W 75 [v44,a1] σ39 (fun v45 σ46 =>
oF (vUn .not v45) fun v47 =>
J41 (lookE [(46,(.loc 5 4)),(47,(.v v44)),(48,(.v a1)),(49,(.v v45)),(50,(.v v47))]) σ46) (pNR R)) σ39 (fun y42 σ43 =>
if true = true then guardG False v36 false (fun J50 =>
oF (vPick (y38 45).pv (y42 50).pv (.bool false)) fun v53 =>
J50 (lookE [(51,(.v v53))]) σ43) σ43 (fun y51 σ52 =>
oF (vPick v36 (.bool true) (y51 51).pv) fun v54 =>
condW v54 (
wkR σ (.int .i64 11) σ52 R) (
oF (vPart false 1 z4 8) fun v55 =>
oF (vLen .sl v55 σ52) fun v56 =>
oF (vBin none .eql v56 (.int .i64 0)) fun v57 =>
condW v57 (
wkR σ (.int .i64 12) σ52 R) (
CutW σ (fun J58 =>
oF (vBin none .gtr a1 (.int .i64 0)) fun v61 =>
condW v61 (
oF (vPart false 1 z0.2 3) fun v62 =>
oF (vBin none .sub a1 (.int .i64 1)) fun v63 =>
oF (vIndex 9 v62 v63) fun v64 =>
oF (vField 3 v64) fun v65 =>
oF (vLoad false 1 v65 σ52) fun v66 =>
packW [(1,a1),(6,v66),(2,z0.2),(5,z4)] fun x67 => J58 x67 σ52) (
packW [(1,a1),(6,(.int .i64 0)),(2,z0.2),(5,z4)] fun x68 => J58 x68 σ52)) (fun x59 σ60 =>
oF (vPart false 1 (x59 5) 2) fun v69 =>
oF (vBin none .neq v69 (x59 6)) fun v70 =>
if true = true then guardG False v70 false (fun J71 =>
oF (vPart false 1 (x59 5) 3) fun v74 =>
oF (vPart false 1 (x59 5) 2) fun v75 =>
oF (vBin none .leq v74 v75) fun v76 =>
J71 (lookE [(71,(.loc 5 3)),(72,(.v v74)),(73,(.loc 5 2)),(74,(.v v75)),(75,(.v v76))]) σ60) σ60 (fun y72 σ73 =>
oF (vPick v70 (.bool true) (y72 75).pv) fun v77 =>
if true = true then guardG False v77 false (fun J78 =>
oF (vPart false 1 (x59 2) 3) fun v81 =>
oF (vLen .sl v81 σ73) fun v82 =>
oF (vBin none .sub v82 (.int .i64 1)) fun v83 =>
oF (vBin none .eql (x59 1) v83) fun v84 =>
J78 (lookE [(78,(.v (x59 1))),(79,(.loc 2 3)),(80,(.v v81)),(81,(.v v82)),(82,(.v v83)),(83,(.v v84)),(84,(.v v84))]) σ73) σ73 (fun y79 σ80 =>
if true = true then guardG False (y79 84).pv true (fun J85 =>
oF (vPart false 1 (x59 5) 3) fun v88 =>
oF (vPart false 1 (x59 2) 4) fun v89 =>
oF (vLen .sl v89 σ80) fun v90 =>
oF (vBin none .neq v88 v90) fun v91 =>
J85 (lookE [(85,(.loc 5 3)),(86,(.v v88)),(87,(.loc 2 4)),(88,(.v v89)),(89,(.v v90)),(90,(.v v91))]) σ80) σ80 (fun y86 σ87 =>
if true = true then guardG False v77 false (fun J92 =>
oF (vPick (y79 84).pv (y86 90).pv (.bool false)) fun v95 =>
J92 (lookE [(91,(.v v95))]) σ87) σ87 (fun y93 σ94 =>
oF (vPick v77 (.bool true) (y93 91).pv) fun v96 =>
condW v96 (
wkR σ (.int .i64 10) σ94 R) (
oF (vPart true 10 (x59 2) 0) fun v97 =>
callB W 124 [v97,(x59 1)] σ94 (fun v98 σ99 =>
oF (vUn .not v98) fun v100 =>
condW v100 (
wkR σ (.int .i64 14) σ99 R) (
oF (vPart false 1 (x59 2) 0) fun v101 =>
oF (vPart false 1 (x59 5) 1) fun v102 =>
oF (vIndex 1 v101 v102) fun v103 =>
oF (vField 0 v103) fun v104 =>
oF (vLoad false 1 v104 σ99) fun v105 =>
oF (vLen .sl v105 σ99) fun v106 =>
oF (vPart false 1 (x59 2) 0) fun v107 =>
oF (vPart false 1 (x59 2) 2) fun v108 =>
oF (vPart false 1 (x59 5) 0) fun v109 =>
oF (vIndex 2 v108 v109) fun v110 =>
oF (vField 1 v110) fun v111 =>
oF (vLoad false 1 v111 σ99) fun v112 =>
oF (vIndex 1 v107 v112) fun v113 =>
oF (vField 0 v113) fun v114 =>
oF (vLoad false 1 v114 σ99) fun v115 =>
oF (vLen .sl v115 σ99) fun v116 =>
CutW σ (fun J117 =>
packW [(1,(x59 1)),(7,v106),(8,v116),(9,(.int .i64 0)),(2,(x59 2)),(5,(x59 5))] fun x173 =>
Lfp σ (fun Φ120 x121 σ122 =>
oF (vPart false 1 (x121 5) 8) fun v123 =>
oF (vLen .sl v123 σ122) fun v124 =>
oF (vBin none .lss (x121 9) v124) fun v125 =>
condW v125 (
oF (vPart false 1 (x121 5) 8) fun v126 =>
oF (vIndex 3 v126 (x121 9)) fun v127 =>
oF (vLoad true 3 v127 σ122) fun v128 =>
oF (vPut 3 (.agg [(.int .i64 0),(.int .i64 0),(.int .i64 0)]) 0 v128) fun z129 =>
oF (vBin none .eql (x121 9) (.int .i64 0)) fun v130 =>
if true = true then guardG False v130 true (fun J131 =>
oF (vPart false 1 z129 0) fun v134 =>
oF (vBin none .neq v134 (.int .i64 (-1))) fun v135 =>
J131 (lookE [(133,(.loc 10 0)),(134,(.v v134)),(135,(.v v135))]) σ122) σ122 (fun y132 σ133 =>
oF (vPick v130 (y132 135).pv (.bool false)) fun v136 =>
if true = true then guardG False v136 false (fun J137 =>
oF (vBin none .gtr (x121 9) (.int .i64 0)) fun v140 =>
J137 (lookE [(138,(.v (x121 9))),(139,(.v v140)),(140,(.v v140))]) σ133) σ133 (fun y138 σ139 =>
if true = true then guardG False (y138 140).pv true (fun J141 =>
oF (vPart false 1 z129 0) fun v144 =>
callB W 75 [v144,(x121 9)] σ139 (fun v145 σ146 =>
oF (vUn .not v145) fun v147 =>
J141 (lookE [(141,(.loc 10 0)),(142,(.v v144)),(143,(.v (x121 9))),(144,(.v v145)),(145,(.v v147))]) σ146) (pNR R)) σ139 (fun y142 σ143 =>
if true = true then guardG False v136 false (fun J150 =>
oF (vPick (y138 140).pv (y142 145).pv (.bool false)) fun v153 =>
J150 (lookE [(146,(.v v153))]) σ143) σ143 (fun y151 σ152 =>
oF (vPick v136 (.bool true) (y151 146).pv) fun v154 =>
condW v154 (
wkR σ (.int .i64 10) σ152 R) (
oF (vPart false 1 z129 1) fun v155 =>
oF (vBin none .lss v155 (x121 8)) fun v156 =>
if true = true then guardG False v156 false (fun J157 =>
oF (vPart false 1 z129 2) fun v160 =>
oF (vPart false 1 z129 1) fun v161 =>
oF (vBin none .lss v160 v161) fun v162 =>
J157 (lookE [(153,(.loc 10 2)),(154,(.v v160)),(155,(.loc 10 1)),(156,(.v v161)),(157,(.v v162))]) σ152) σ152 (fun y158 σ159 =>
oF (vPick v156 (.bool true) (y158 157).pv) fun v163 =>
if true = true then guardG False v163 false (fun J164 =>
oF (vPart false 1 z129 2) fun v167 =>
oF (vBin none .gtr v167 (x121 7)) fun v168 =>
J164 (lookE [(160,(.loc 10 2)),(161,(.v v167)),(162,(.v (x121 7))),(163,(.v v168))]) σ159) σ159 (fun y165 σ166 =>
oF (vPick v163 (.bool true) (y165 163).pv) fun v169 =>
condW v169 (
wkR σ (.int .i64 11) σ166 R) (
oF (vBin none .add (x121 9) (.int .i64 1)) fun v170 =>
packW [(1,(x121 1)),(7,(x121 7)),(8,(x121 8)),(9,v170),(2,(x121 2)),(5,(x121 5))] fun x171 => Φ120 x171 σ166)) else False) else False)) else False) else False) else False) else False) (
packW [(1,(x121 1)),(2,(x121 2)),(5,(x121 5))] fun x172 => J117 x172 σ122)) x173 σ99) (fun x118 σ119 =>
oF (vBin none .eql (x118 1) (.int .i64 0)) fun v174 =>
if true = true then guardG False v174 true (fun J175 =>
oF (vPart false 1 (x118 5) 5) fun v178 =>
oF (vBin none .neq v178 (.int .i64 (-1))) fun v179 =>
J175 (lookE [(168,(.loc 5 5)),(169,(.v v178)),(170,(.v v179))]) σ119) σ119 (fun y176 σ177 =>
oF (vPick v174 (y176 170).pv (.bool false)) fun v180 =>
if true = true then guardG False v180 false (fun J181 =>
oF (vBin none .gtr (x118 1) (.int .i64 0)) fun v184 =>
J181 (lookE [(173,(.v (x118 1))),(174,(.v v184)),(175,(.v v184))]) σ177) σ177 (fun y182 σ183 =>
if true = true then guardG False (y182 175).pv true (fun J185 =>
oF (vPart false 1 (x118 5) 5) fun v188 =>
oF (vPart false 1 (x118 2) 3) fun v189 =>
oF (vPart false 1 (x118 5) 4) fun v190 =>
oF (vIndex 9 v189 v190) fun v191 =>
oF (vField 8 v191) fun v192 =>
oF (vLoad false 1 v192 σ183) fun v193 =>
oF (vLen .sl v193 σ183) fun v194 =>
callB W 75 [v188,v194] σ183 (fun v195 σ196 =>
oF (vUn .not v195) fun v197 =>
J185 (lookE [(176,(.loc 5 5)),(177,(.v v188)),(178,(.loc 2 3)),(179,(.v v189)),(180,(.loc 5 4)),(181,(.v v190)),(182,(.v v191)),(183,(.v v192)),(184,(.v v193)),(185,(.v v194)),(186,(.v v195)),(187,(.v v197))]) σ196) (pNR R)) σ183 (fun y186 σ187 =>
if true = true then guardG False v180 false (fun J200 =>
oF (vPick (y182 175).pv (y186 187).pv (.bool false)) fun v203 =>
J200 (lookE [(188,(.v v203))]) σ187) σ187 (fun y201 σ202 =>
oF (vPick v180 (.bool true) (y201 188).pv) fun v204 =>
if true = true then guardG False v204 false (fun J205 =>
oF (vPart false 1 (x118 5) 6) fun v208 =>
oF (vBin none .lss v208 (.int .i64 0)) fun v209 =>
J205 (lookE [(191,(.loc 5 6)),(192,(.v v208)),(193,(.v v209))]) σ202) σ202 (fun y206 σ207 =>
oF (vPick v204 (.bool true) (y206 193).pv) fun v210 =>
if true = true then guardG False v210 false (fun J211 =>
oF (vPart false 1 (x118 5) 6) fun v214 =>
oF (vBin none .eql v214 (.int .i64 0)) fun v215 =>
J211 (lookE [(196,(.loc 5 6)),(197,(.v v214)),(198,(.v v215)),(199,(.v v215))]) σ207) σ207 (fun y212 σ213 =>
if true = true then guardG False (y212 199).pv true (fun J216 =>
oF (vPart false 1 (x118 5) 7) fun v219 =>
oF (vBin none .neq v219 (.int .i64 0)) fun v220 =>
J216 (lookE [(200,(.loc 5 7)),(201,(.v v219)),(202,(.v v220))]) σ213) σ213 (fun y217 σ218 =>
if true = true then guardG False v210 false (fun J221 =>
oF (vPick (y212 199).pv (y217 202).pv (.bool false)) fun v224 =>
J221 (lookE [(203,(.v v224))]) σ218) σ218 (fun y222 σ223 =>
oF (vPick v210 (.bool true) (y222 203).pv) fun v225 =>
condW v225 (
wkR σ (.int .i64 11) σ223 R) (
CutW σ (fun J226 =>
oF (vPart false 1 (x118 5) 6) fun v229 =>
oF (vBin none .gtr v229 (.int .i64 0)) fun v230 =>
condW v230 (
oF (vPart true 10 (x118 2) 0) fun v231 =>
oF (vPart false 1 (x118 5) 6) fun v232 =>
callB W 125 [v231,(x118 1),v232] σ223 (fun v233 σ234 =>
oF (vBin none .lss v233 (.int .i64 0)) fun v235 =>
if true = true then guardG False v235 false (fun J236 =>
oF (vPart false 1 (x118 5) 7) fun v239 =>
oF (vPart false 1 (x118 2) 3) fun v240 =>
oF (vIndex 9 v240 v233) fun v241 =>
oF (vField 8 v241) fun v242 =>
oF (vLoad false 1 v242 σ234) fun v243 =>
oF (vLen .sl v243 σ234) fun v244 =>
callB W 75 [v239,v244] σ234 (fun v245 σ246 =>
oF (vUn .not v245) fun v247 =>
J236 (lookE [(216,(.loc 5 7)),(217,(.v v239)),(218,(.loc 2 3)),(219,(.v v240)),(220,(.v v233)),(221,(.v v241)),(222,(.v v242)),(223,(.v v243)),(224,(.v v244)),(225,(.v v245)),(226,(.v v247))]) σ246) (pNR R)) σ234 (fun y237 σ238 =>
oF (vPick v235 (.bool true) (y237 226).pv) fun v250 =>
condW v250 (
wkR σ (.int .i64 11) σ238 R) (
packW [] fun x251 => J226 x251 σ238)) else False) (pNR R)) (
packW [] fun x254 => J226 x254 σ223)) (fun x227 σ228 =>
wkR σ (.int .i64 0) σ228 R))) else False) else False) else False) else False) else False) else False) else False) else False))) (pNR R))) else False) else False) else False) else False)))) else False) else False) else False) else False) else False) else False) else False) (pNR R)
theorem fn66_eq (W : CallP) (a0 a1 : PV) (σ : St) (R : Res → St → Prop) : bodyC (algP W) Tryz.prog annF 66 [a0,a1] σ R = fn66 Tryz.prog W a0 a1 σ R := by kernel_rfl
def fn70 (Pr : Program) (W : CallP) (a0 a1 a2 a3 a4 : PV) (σ : St) (R : Res → St → Prop) : Prop :=
oF (opC.vBoxAny a0) fun z0 =>
oF (opC.vBoxAny a2) fun z1 =>
oF (vPart false 1 z1.2 0) fun v2 =>
callB W 18 [v2] σ (fun v3 σ4 =>
oF (vBin none .eql v3 (.str [])) fun v5 =>
condW v5 (
wkR σ (.int .i64 13) σ4 R) (
oF (vPart true 10 z0.2 0) fun v6 =>
oF (vPart true 3 z1.2 1) fun v7 =>
oF (vStrAt v3 (.int .i64 0)) fun v8 =>
callB W 132 [v6,a1,v7,v8] σ4 (fun v9 σ10 =>
oF (vUn .not v9) fun v11 =>
if true = true then guardG False v11 false (fun J12 =>
oF (vPart true 10 z0.2 0) fun v15 =>
oF (vPart true 3 z1.2 4) fun v16 =>
oF (vStrAt v3 (.int .i64 1)) fun v17 =>
callB W 132 [v15,a1,v16,v17] σ10 (fun v18 σ19 =>
oF (vUn .not v18) fun v20 =>
J12 (lookE [(30,(.v v15)),(31,(.v a1)),(32,(.loc 7 4)),(33,(.v v16)),(34,(.v v3)),(35,(.v v17)),(36,(.v v18)),(37,(.v v20))]) σ19) (pNR R)) σ10 (fun y13 σ14 =>
oF (vPick v11 (.bool true) (y13 37).pv) fun v23 =>
if true = true then guardG False v23 false (fun J24 =>
oF (vPart true 10 z0.2 0) fun v27 =>
oF (vPart true 3 z1.2 7) fun v28 =>
oF (vStrAt v3 (.int .i64 2)) fun v29 =>
callB W 132 [v27,a1,v28,v29] σ14 (fun v30 σ31 =>
oF (vUn .not v30) fun v32 =>
J24 (lookE [(40,(.v v27)),(41,(.v a1)),(42,(.loc 7 7)),(43,(.v v28)),(44,(.v v3)),(45,(.v v29)),(46,(.v v30)),(47,(.v v32))]) σ31) (pNR R)) σ14 (fun y25 σ26 =>
oF (vPick v23 (.bool true) (y25 47).pv) fun v35 =>
condW v35 (
wkR σ (.int .i64 7) σ26 R) (
oF (vPart true 10 z0.2 0) fun v36 =>
oF (vPart true 12 z1.2 0) fun v37 =>
oF (vStrAt v3 (.int .i64 3)) fun v38 =>
callB W 133 [v36,v37,v38] σ26 (fun v39 σ40 =>
oF (vUn .not v39) fun v41 =>
if true = true then guardG False v41 false (fun J42 =>
oF (vPart true 10 z0.2 0) fun v45 =>
oF (vPart true 12 z1.2 0) fun v46 =>
oF (vStrAt v3 (.int .i64 4)) fun v47 =>
callB W 134 [v45,a1,v46,v47,a3,a4] σ40 (fun v48 σ49 =>
oF (vUn .not v48) fun v50 =>
J42 (lookE [(56,(.v v45)),(57,(.v a1)),(58,(.v v46)),(59,(.v v3)),(60,(.v v47)),(61,(.v a3)),(62,(.v a4)),(63,(.v v48)),(64,(.v v50))]) σ49) (pNR R)) σ40 (fun y43 σ44 =>
oF (vPick v41 (.bool true) (y43 64).pv) fun v53 =>
condW v53 (
wkR σ (.int .i64 11) σ44 R) (
CutW σ (fun J54 =>
oF (vStrAt v3 (.int .i64 4)) fun v57 =>
oF (vBin none .eql v57 (.int .u8 99)) fun v58 =>
condW v58 (
oF (vPart false 1 z0.2 5) fun v59 =>
oF (vPart false 1 z1.2 11) fun v60 =>
oF (vIndex 1 v59 v60) fun v61 =>
oF (vLoad false 1 v61 σ44) fun v62 =>
CutW σ (fun J63 =>
packW [(1,a1),(11,v3),(12,v62),(13,(.int .i64 0)),(5,z0.2),(7,z1.2)] fun x82 =>
Lfp σ (fun Φ66 x67 σ68 =>
oF (vLen .sl (x67 12) σ68) fun v69 =>
oF (vBin none .lss (x67 13) v69) fun v70 =>
condW v70 (
oF (vPart true 10 (x67 5) 0) fun v71 =>
oF (vIndex 1 (x67 12) (x67 13)) fun v72 =>
oF (vLoad false 1 v72 σ68) fun v73 =>
callB W 135 [v71,(x67 1),v73] σ68 (fun v74 σ75 =>
oF (vUn .not v74) fun v76 =>
condW v76 (
wkR σ (.int .i64 11) σ75 R) (
oF (vBin none .add (x67 13) (.int .i64 1)) fun v77 =>
packW [(1,(x67 1)),(11,(x67 11)),(12,(x67 12)),(13,v77),(5,(x67 5)),(7,(x67 7))] fun x78 => Φ66 x78 σ75)) (pNR R)) (
packW [(11,(x67 11)),(12,(x67 12)),(5,(x67 5)),(7,(x67 7))] fun x81 => J63 x81 σ68)) x82 σ44) (fun x64 σ65 =>
oF (vLen .sl (x64 12) σ65) fun v83 =>
oF (vBin none .eql v83 (.int .i64 0)) fun v84 =>
condW v84 (
wkR σ (.int .i64 11) σ65 R) (
packW [(11,(x64 11)),(5,(x64 5)),(7,(x64 7))] fun x85 => J54 x85 σ65))) (
packW [(11,v3),(5,z0.2),(7,z1.2)] fun x86 => J54 x86 σ44)) (fun x55 σ56 =>
CutW σ (fun J87 =>
oF (vStrAt (x55 11) (.int .i64 4)) fun v90 =>
oF (vBin none .eql v90 (.int .u8 112)) fun v91 =>
condW v91 (
oF (vPart false 1 (x55 5) 6) fun v92 =>
oF (vPart false 1 (x55 7) 11) fun v93 =>
oF (vIndex 1 v92 v93) fun v94 =>
oF (vLoad false 1 v94 σ56) fun v95 =>
packW [(14,v95),(15,(.int .i64 0))] fun x114 =>
Lfp σ (fun Φ96 x97 σ98 =>
oF (vLen .sl (x97 14) σ98) fun v99 =>
oF (vBin none .lss (x97 15) v99) fun v100 =>
condW v100 (
oF (vIndex 1 (x97 14) (x97 15)) fun v101 =>
oF (vLoad false 1 v101 σ98) fun v102 =>
oF (vBin none .lss v102 (.int .i64 (-1))) fun v103 =>
if true = true then guardG False v103 false (fun J104 =>
oF (vIndex 1 (x97 14) (x97 15)) fun v107 =>
oF (vLoad false 1 v107 σ98) fun v108 =>
oF (vBin none .geq v108 (.int .i64 64)) fun v109 =>
J104 (lookE [(113,(.v (x97 14))),(114,(.v (x97 15))),(115,(.v v107)),(116,(.v v108)),(117,(.v v109))]) σ98) σ98 (fun y105 σ106 =>
oF (vPick v103 (.bool true) (y105 117).pv) fun v110 =>
condW v110 (
wkR σ (.int .i64 11) σ106 R) (
oF (vBin none .add (x97 15) (.int .i64 1)) fun v111 =>
packW [(14,(x97 14)),(15,v111)] fun x112 => Φ96 x112 σ106)) else False) (
packW [] fun x113 => J87 x113 σ98)) x114 σ56) (
packW [] fun x115 => J87 x115 σ56)) (fun x88 σ89 =>
wkR σ (.int .i64 0) σ89 R)))) else False) (pNR R))) else False) else False) (pNR R))) (pNR R)
theorem fn70_eq (W : CallP) (a0 a1 a2 a3 a4 : PV) (σ : St) (R : Res → St → Prop) : bodyC (algP W) Tryz.prog annF 70 [a0,a1,a2,a3,a4] σ R = fn70 Tryz.prog W a0 a1 a2 a3 a4 σ R := by kernel_rfl
def fn72 (Pr : Program) (W : CallP) (a0 a1 : PV) (σ : St) (R : Res → St → Prop) : Prop :=
oF (opC.vBoxAny a0) fun z0 =>
oF (opC.vBoxAny a1) fun z1 =>
if 0 < z1.1 then newW z1.1 z1.2 σ fun p2 σ3 =>
oF (vPart false 1 z0.2 3) fun v4 =>
callB W 136 [v4,(.func 137 0 [p2])] σ3 (fun v5 σ6 =>
wkR σ v5 σ6 R) (pNR R) else False
theorem fn72_eq (W : CallP) (a0 a1 : PV) (σ : St) (R : Res → St → Prop) : bodyC (algP W) Tryz.prog annF 72 [a0,a1] σ R = fn72 Tryz.prog W a0 a1 σ R := by kernel_rfl
def fn116 (Pr : Program) (W : CallP) (a0 a1 : PV) (σ : St) (R : Res → St → Prop) : Prop :=
oF (opC.vBoxAny a0) fun z0 =>
oF (vPart false 1 z0.2 3) fun v1 =>
oF (vIndex 9 v1 a1) fun v2 =>
oF (vLoad true 9 v2 σ) fun v3 =>
oF (vPut 9 (.agg [(.int .i64 0),(.int .i64 0),(.int .i64 0),(.int .i64 0),(.int .i64 0),(.int .i64 0),(.int .i64 0),(.int .i64 0),(.list .nil [])]) 0 v3) fun z4 =>
CutW σ (fun J5 =>
oF (vBin none .gtr a1 (.int .i64 0)) fun v8 =>
condW v8 (
oF (vPart false 1 z0.2 3) fun v9 =>
oF (vBin none .sub a1 (.int .i64 1)) fun v10 =>
oF (vIndex 9 v9 v10) fun v11 =>
oF (vField 3 v11) fun v12 =>
oF (vLoad false 1 v12 σ) fun v13 =>
packW [(1,a1),(6,v13),(2,z0.2),(5,z4)] fun x14 => J5 x14 σ) (
packW [(1,a1),(6,(.int .i64 0)),(2,z0.2),(5,z4)] fun x15 => J5 x15 σ)) (fun x6 σ7 =>
oF (vPart false 1 (x6 5) 0) fun v16 =>
oF (vPart false 1 (x6 2) 2) fun v17 =>
oF (vLen .sl v17 σ7) fun v18 =>
callB W 42 [v16,v18] σ7 (fun v19 σ20 =>
oF (vUn .not v19) fun v21 =>
if true = true then guardG False v21 false (fun J22 =>
oF (vPart false 1 (x6 5) 1) fun v25 =>
oF (vPart false 1 (x6 2) 0) fun v26 =>
oF (vLen .sl v26 σ20) fun v27 =>
callB W 42 [v25,v27] σ20 (fun v28 σ29 =>
oF (vUn .not v28) fun v30 =>
J22 (lookE [(42,(.loc 5 1)),(43,(.v v25)),(44,(.loc 2 0)),(45,(.loc 2 0)),(46,(.v v26)),(47,(.v v27)),(48,(.v v28)),(49,(.v v30))]) σ29) (pNR R)) σ20 (fun y23 σ24 =>
oF (vPick v21 (.bool true) (y23 49).pv) fun v33 =>
if true = true then guardG False v33 false (fun J34 =>
oF (vBin none .eql (x6 1) (.int .i64 0)) fun v37 =>
J34 (lookE [(52,(.v (x6 1))),(53,(.v v37)),(54,(.v v37))]) σ24) σ24 (fun y35 σ36 =>
if true = true then guardG False (y35 54).pv true (fun J38 =>
oF (vPart false 1 (x6 5) 4) fun v41 =>
oF (vBin none .neq v41 (.int .i64 (-1))) fun v42 =>
J38 (lookE [(55,(.loc 5 4)),(56,(.v v41)),(57,(.v v42))]) σ36) σ36 (fun y39 σ40 =>
if true = true then guardG False v33 false (fun J43 =>
oF (vPick (y35 54).pv (y39 57).pv (.bool false)) fun v46 =>
J43 (lookE [(58,(.v v46))]) σ40) σ40 (fun y44 σ45 =>
oF (vPick v33 (.bool true) (y44 58).pv) fun v47 =>
if true = true then guardG False v47 false (fun J48 =>
oF (vBin none .gtr (x6 1) (.int .i64 0)) fun v51 =>
J48 (lookE [(61,(.v (x6 1))),(62,(.v v51)),(63,(.v v51))]) σ45) σ45 (fun y49 σ50 =>
if true = true then guardG False (y49 63).pv true (fun J52 =>
oF (vPart false 1 (x6 5) 4) fun v55 =>
callB W 42 [v55,(x6 1)] σ50 (fun v56 σ57 =>
oF (vUn .not v56) fun v58 =>
J52 (lookE [(64,(.loc 5 4)),(65,(.v v55)),(66,(.v (x6 1))),(67,(.v v56)),(68,(.v v58))]) σ57) (pNR R)) σ50 (fun y53 σ54 =>
if true = true then guardG False v47 false (fun J61 =>
oF (vPick (y49 63).pv (y53 68).pv (.bool false)) fun v64 =>
J61 (lookE [(69,(.v v64))]) σ54) σ54 (fun y62 σ63 =>
oF (vPick v47 (.bool true) (y62 69).pv) fun v65 =>
condW v65 (
wkR σ (.int .i64 11) σ63 R) (
oF (vPart false 1 (x6 5) 8) fun v66 =>
oF (vLen .sl v66 σ63) fun v67 =>
oF (vBin none .eql v67 (.int .i64 0)) fun v68 =>
condW v68 (
wkR σ (.int .i64 12) σ63 R) (
oF (vPart false 1 (x6 5) 2) fun v69 =>
oF (vBin none .neq v69 (x6 6)) fun v70 =>
if true = true then guardG False v70 false (fun J71 =>
oF (vPart false 1 (x6 5) 3) fun v74 =>
oF (vPart false 1 (x6 5) 2) fun v75 =>
oF (vBin none .leq v74 v75) fun v76 =>
J71 (lookE [(82,(.loc 5 3)),(83,(.v v74)),(84,(.loc 5 2)),(85,(.v v75)),(86,(.v v76))]) σ63) σ63 (fun y72 σ73 =>
oF (vPick v70 (.bool true) (y72 86).pv) fun v77 =>
if true = true then guardG False v77 false (fun J78 =>
oF (vPart false 1 (x6 2) 3) fun v81 =>
oF (vLen .sl v81 σ73) fun v82 =>
oF (vBin none .sub v82 (.int .i64 1)) fun v83 =>
oF (vBin none .eql (x6 1) v83) fun v84 =>
J78 (lookE [(89,(.v (x6 1))),(90,(.loc 2 0)),(91,(.loc 2 3)),(92,(.v v81)),(93,(.v v82)),(94,(.v v83)),(95,(.v v84)),(96,(.v v84))]) σ73) σ73 (fun y79 σ80 =>
if true = true then guardG False (y79 96).pv true (fun J85 =>
oF (vPart false 1 (x6 5) 3) fun v88 =>
oF (vPart false 1 (x6 2) 4) fun v89 =>
oF (vLen .sl v89 σ80) fun v90 =>
oF (vBin none .neq v88 v90) fun v91 =>
J85 (lookE [(97,(.loc 5 3)),(98,(.v v88)),(99,(.loc 2 0)),(100,(.loc 2 4)),(101,(.v v89)),(102,(.v v90)),(103,(.v v91))]) σ80) σ80 (fun y86 σ87 =>
if true = true then guardG False v77 false (fun J92 =>
oF (vPick (y79 96).pv (y86 103).pv (.bool false)) fun v95 =>
J92 (lookE [(104,(.v v95))]) σ87) σ87 (fun y93 σ94 =>
oF (vPick v77 (.bool true) (y93 104).pv) fun v96 =>
condW v96 (
wkR σ (.int .i64 10) σ94 R) (
oF (vPart false 1 (x6 2) 2) fun v97 =>
oF (vPart false 1 (x6 5) 0) fun v98 =>
oF (vIndex 2 v97 v98) fun v99 =>
oF (vLoad true 2 v99 σ94) fun v100 =>
oF (vPut 2 (.agg [(.int .i64 0),(.int .i64 0)]) 0 v100) fun z101 =>
oF (vPart false 1 (x6 2) 0) fun v102 =>
oF (vPart false 1 z101 1) fun v103 =>
oF (vIndex 1 v102 v103) fun v104 =>
oF (vField 0 v104) fun v105 =>
oF (vLoad false 1 v105 σ94) fun v106 =>
oF (vPart false 1 (x6 2) 0) fun v107 =>
oF (vPart false 1 z101 0) fun v108 =>
oF (vIndex 1 v107 v108) fun v109 =>
oF (vField 0 v109) fun v110 =>
oF (vLoad false 1 v110 σ94) fun v111 =>
oF (vPart false 1 (x6 2) 0) fun v112 =>
oF (vPart false 1 (x6 5) 1) fun v113 =>
oF (vIndex 1 v112 v113) fun v114 =>
oF (vField 0 v114) fun v115 =>
oF (vLoad false 1 v115 σ94) fun v116 =>
oF (vBuildSl 1 (List.replicate 2 (.list .nil [])) [(0,v106),(1,v111)]) fun v117 =>
callB W 225 [(.list .full v117)] σ94 (fun v118 σ119 =>
oF (vBin none .eql (x6 1) (.int .i64 0)) fun v120 =>
if true = true then guardG False v120 true (fun J121 =>
oF (vLen .sl v118 σ119) fun v124 =>
oF (vBin none .gtr v124 (.int .i64 0)) fun v125 =>
J121 (lookE [(144,(.v v118)),(145,(.v v124)),(146,(.v v125))]) σ119) σ119 (fun y122 σ123 =>
oF (vPick v120 (y122 146).pv (.bool false)) fun v126 =>
if true = true then guardG False v126 false (fun J127 =>
oF (vLen .sl v116 σ123) fun v130 =>
oF (vLen .sl v118 σ123) fun v131 =>
oF (vBin none .lss v130 v131) fun v132 =>
J127 (lookE [(149,(.v v116)),(150,(.v v130)),(151,(.v v118)),(152,(.v v131)),(153,(.v v132))]) σ123) σ123 (fun y128 σ129 =>
oF (vPick v126 (.bool true) (y128 153).pv) fun v133 =>
if true = true then guardG False v133 false (fun J134 =>
oF (vLen .sl v118 σ129) fun v137 =>
oF (vSubSl 5 v116 none (some v137)) fun v138 =>
callB W 226 [v138,v118] σ129 (fun v139 σ140 =>
oF (vUn .not v139) fun v141 =>
J134 (lookE [(156,(.v v116)),(157,(.v v118)),(158,(.v v137)),(159,(.v v138)),(160,(.v v118)),(161,(.v v139)),(162,(.v v141))]) σ140) (pNR R)) σ129 (fun y135 σ136 =>
oF (vPick v133 (.bool true) (y135 162).pv) fun v144 =>
condW v144 (
wkR σ (.int .i64 14) σ136 R) (
CutW σ (fun J145 =>
oF (vPart false 1 (x6 5) 8) fun v148 =>
oF (vLen .sl v148 σ136) fun v149 =>
packW [(1,(x6 1)),(8,v106),(10,v116),(165,v148),(166,v149),(167,(.int .i64 0)),(2,(x6 2)),(5,(x6 5))] fun x202 =>
Lfp σ (fun Φ150 x151 σ152 =>
oF (vBin none .lss (x151 167) (x151 166)) fun v153 =>
condW v153 (
oF (vIndex 3 (x151 165) (x151 167)) fun v154 =>
oF (vLoad true 3 v154 σ152) fun v155 =>
oF (vPut 3 (.agg [(.int .i64 0),(.int .i64 0),(.int .i64 0)]) 0 v155) fun z156 =>
oF (vBin none .eql (x151 167) (.int .i64 0)) fun v157 =>
if true = true then guardG False v157 true (fun J158 =>
oF (vPart false 1 z156 0) fun v161 =>
oF (vBin none .neq v161 (.int .i64 (-1))) fun v162 =>
J158 (lookE [(176,(.loc 13 0)),(177,(.v v161)),(178,(.v v162))]) σ152) σ152 (fun y159 σ160 =>
oF (vPick v157 (y159 178).pv (.bool false)) fun v163 =>
if true = true then guardG False v163 false (fun J164 =>
oF (vBin none .gtr (x151 167) (.int .i64 0)) fun v167 =>
J164 (lookE [(181,(.v (x151 167))),(182,(.v v167)),(183,(.v v167))]) σ160) σ160 (fun y165 σ166 =>
if true = true then guardG False (y165 183).pv true (fun J168 =>
oF (vPart false 1 z156 0) fun v171 =>
callB W 42 [v171,(x151 167)] σ166 (fun v172 σ173 =>
oF (vUn .not v172) fun v174 =>
J168 (lookE [(184,(.loc 13 0)),(185,(.v v171)),(186,(.v (x151 167))),(187,(.v v172)),(188,(.v v174))]) σ173) (pNR R)) σ166 (fun y169 σ170 =>
if true = true then guardG False v163 false (fun J177 =>
oF (vPick (y165 183).pv (y169 188).pv (.bool false)) fun v180 =>
J177 (lookE [(189,(.v v180))]) σ170) σ170 (fun y178 σ179 =>
oF (vPick v163 (.bool true) (y178 189).pv) fun v181 =>
condW v181 (
wkR σ (.int .i64 10) σ179 R) (
oF (vPart false 1 z156 1) fun v182 =>
oF (vLen .sl (x151 8) σ179) fun v183 =>
oF (vBin none .lss v182 v183) fun v184 =>
if true = true then guardG False v184 false (fun J185 =>
oF (vPart false 1 z156 1) fun v188 =>
oF (vPart false 1 z156 2) fun v189 =>
oF (vBin none .gtr v188 v189) fun v190 =>
J185 (lookE [(198,(.loc 13 1)),(199,(.v v188)),(200,(.loc 13 2)),(201,(.v v189)),(202,(.v v190))]) σ179) σ179 (fun y186 σ187 =>
oF (vPick v184 (.bool true) (y186 202).pv) fun v191 =>
if true = true then guardG False v191 false (fun J192 =>
oF (vPart false 1 z156 2) fun v195 =>
oF (vLen .sl (x151 10) σ187) fun v196 =>
oF (vBin none .gtr v195 v196) fun v197 =>
J192 (lookE [(205,(.loc 13 2)),(206,(.v v195)),(207,(.v (x151 10))),(208,(.v v196)),(209,(.v v197))]) σ187) σ187 (fun y193 σ194 =>
oF (vPick v191 (.bool true) (y193 209).pv) fun v198 =>
condW v198 (
wkR σ (.int .i64 11) σ194 R) (
oF (vBin none .add (x151 167) (.int .i64 1)) fun v199 =>
packW [(1,(x151 1)),(8,(x151 8)),(10,(x151 10)),(165,(x151 165)),(166,(x151 166)),(167,v199),(2,(x151 2)),(5,(x151 5))] fun x200 => Φ150 x200 σ194)) else False) else False)) else False) else False) else False) else False) (
packW [(1,(x151 1)),(2,(x151 2)),(5,(x151 5))] fun x201 => J145 x201 σ152)) x202 σ136) (fun x146 σ147 =>
oF (vBin none .eql (x146 1) (.int .i64 0)) fun v203 =>
if true = true then guardG False v203 true (fun J204 =>
oF (vPart false 1 (x146 5) 5) fun v207 =>
oF (vBin none .neq v207 (.int .i64 (-1))) fun v208 =>
J204 (lookE [(215,(.loc 5 5)),(216,(.v v207)),(217,(.v v208))]) σ147) σ147 (fun y205 σ206 =>
oF (vPick v203 (y205 217).pv (.bool false)) fun v209 =>
if true = true then guardG False v209 false (fun J210 =>
oF (vBin none .gtr (x146 1) (.int .i64 0)) fun v213 =>
J210 (lookE [(220,(.v (x146 1))),(221,(.v v213)),(222,(.v v213))]) σ206) σ206 (fun y211 σ212 =>
if true = true then guardG False (y211 222).pv true (fun J214 =>
oF (vPart false 1 (x146 5) 5) fun v217 =>
oF (vPart false 1 (x146 2) 3) fun v218 =>
oF (vPart false 1 (x146 5) 4) fun v219 =>
oF (vIndex 9 v218 v219) fun v220 =>
oF (vField 8 v220) fun v221 =>
oF (vLoad false 1 v221 σ212) fun v222 =>
oF (vLen .sl v222 σ212) fun v223 =>
callB W 42 [v217,v223] σ212 (fun v224 σ225 =>
oF (vUn .not v224) fun v226 =>
J214 (lookE [(223,(.loc 5 5)),(224,(.v v217)),(225,(.loc 2 0)),(226,(.loc 2 3)),(227,(.v v218)),(228,(.loc 5 4)),(229,(.v v219)),(230,(.v v220)),(231,(.v v221)),(232,(.v v222)),(233,(.v v223)),(234,(.v v224)),(235,(.v v226))]) σ225) (pNR R)) σ212 (fun y215 σ216 =>
if true = true then guardG False v209 false (fun J229 =>
oF (vPick (y211 222).pv (y215 235).pv (.bool false)) fun v232 =>
J229 (lookE [(236,(.v v232))]) σ216) σ216 (fun y230 σ231 =>
oF (vPick v209 (.bool true) (y230 236).pv) fun v233 =>
if true = true then guardG False v233 false (fun J234 =>
oF (vPart false 1 (x146 5) 6) fun v237 =>
oF (vBin none .lss v237 (.int .i64 0)) fun v238 =>
J234 (lookE [(239,(.loc 5 6)),(240,(.v v237)),(241,(.v v238))]) σ231) σ231 (fun y235 σ236 =>
oF (vPick v233 (.bool true) (y235 241).pv) fun v239 =>
if true = true then guardG False v239 false (fun J240 =>
oF (vPart false 1 (x146 5) 6) fun v243 =>
oF (vBin none .eql v243 (.int .i64 0)) fun v244 =>
J240 (lookE [(244,(.loc 5 6)),(245,(.v v243)),(246,(.v v244)),(247,(.v v244))]) σ236) σ236 (fun y241 σ242 =>
if true = true then guardG False (y241 247).pv true (fun J245 =>
oF (vPart false 1 (x146 5) 7) fun v248 =>
oF (vBin none .neq v248 (.int .i64 0)) fun v249 =>
J245 (lookE [(248,(.loc 5 7)),(249,(.v v248)),(250,(.v v249))]) σ242) σ242 (fun y246 σ247 =>
if true = true then guardG False v239 false (fun J250 =>
oF (vPick (y241 247).pv (y246 250).pv (.bool false)) fun v253 =>
J250 (lookE [(251,(.v v253))]) σ247) σ247 (fun y251 σ252 =>
oF (vPick v239 (.bool true) (y251 251).pv) fun v254 =>
condW v254 (
wkR σ (.int .i64 11) σ252 R) (
CutW σ (fun J255 =>
oF (vPart false 1 (x146 5) 6) fun v258 =>
oF (vBin none .gtr v258 (.int .i64 0)) fun v259 =>
condW v259 (
oF (vPart true 12 (x146 2) 0) fun v260 =>
oF (vPart false 1 (x146 5) 6) fun v261 =>
callB W 227 [v260,(x146 1),v261] σ252 (fun v262 σ263 =>
oF (vExtract v262 0) fun v264 =>
oF (vExtract v262 1) fun v265 =>
oF (vUn .not v265) fun v266 =>
if true = true then guardG False v266 false (fun J267 =>
oF (vPart false 1 (x146 5) 7) fun v270 =>
oF (vPart false 1 (x146 2) 3) fun v271 =>
oF (vIndex 9 v271 v264) fun v272 =>
oF (vField 8 v272) fun v273 =>
oF (vLoad false 1 v273 σ263) fun v274 =>
oF (vLen .sl v274 σ263) fun v275 =>
callB W 42 [v270,v275] σ263 (fun v276 σ277 =>
oF (vUn .not v276) fun v278 =>
J267 (lookE [(267,(.loc 5 7)),(268,(.v v270)),(269,(.loc 2 0)),(270,(.loc 2 3)),(271,(.v v271)),(272,(.v v264)),(273,(.v v272)),(274,(.v v273)),(275,(.v v274)),(276,(.v v275)),(277,(.v v276)),(278,(.v v278))]) σ277) (pNR R)) σ263 (fun y268 σ269 =>
oF (vPick v266 (.bool true) (y268 278).pv) fun v281 =>
condW v281 (
wkR σ (.int .i64 11) σ269 R) (
packW [] fun x282 => J255 x282 σ269)) else False) (pNR R)) (
packW [] fun x285 => J255 x285 σ252)) (fun x256 σ257 =>
wkR σ (.int .i64 0) σ257 R))) else False) else False) else False) else False) else False) else False) else False) else False))) else False) else False) else False) (pNR R))) else False) else False) else False) else False))) else False) else False) else False) else False) else False) else False) else False) (pNR R))
theorem fn116_eq (W : CallP) (a0 a1 : PV) (σ : St) (R : Res → St → Prop) : bodyC (algP W) Tryz.prog annF 116 [a0,a1] σ R = fn116 Tryz.prog W a0 a1 σ R := by kernel_rfl
def fn118 (Pr : Program) (W : CallP) (a0 a1 a2 a3 : PV) (σ : St) (R : Res → St → Prop) : Prop :=
oF (opC.vBoxAny a0) fun z0 =>
oF (opC.vBoxAny a1) fun z1 =>
oF (vPart false 1 z1.2 0) fun v2 =>
oF (vBin none .eql v2 (.int .i64 0)) fun v3 =>
condW v3 (
oF (vBin none .eql a2 (.int .u8 45)) fun v4 =>
if true = true then guardG False v4 false (fun J5 =>
oF (vBin none .eql a2 (.int .u8 111)) fun v8 =>
J5 (lookE [(20,(.v a2)),(21,(.v v8))]) σ) σ (fun y6 σ7 =>
oF (vPick v4 (.bool true) (y6 21).pv) fun v9 =>
if true = true then guardG False v9 true (fun J10 =>
oF (vPart false 1 z1.2 1) fun v13 =>
oF (vBin none .eql v13 (.int .i64 0)) fun v14 =>
J10 (lookE [(24,(.loc 5 1)),(25,(.v v13)),(26,(.v v14))]) σ7) σ7 (fun y11 σ12 =>
oF (vPick v9 (y11 26).pv (.bool false)) fun v15 =>
if true = true then guardG False v15 true (fun J16 =>
oF (vPart false 1 z1.2 2) fun v19 =>
oF (vBin none .eql v19 (.int .i64 0)) fun v20 =>
J16 (lookE [(29,(.loc 5 2)),(30,(.v v19)),(31,(.v v20))]) σ12) σ12 (fun y17 σ18 =>
oF (vPick v15 (y17 31).pv (.bool false)) fun v21 =>
wkR σ v21 σ18 R) else False) else False) else False) (
oF (vBin none .eql v2 (.int .i64 1)) fun v22 =>
condW v22 (
oF (vPart true 12 z0.2 0) fun v23 =>
oF (vPart false 1 z1.2 2) fun v24 =>
callB W 228 [v23,a3,v24] σ (fun v25 σ26 =>
oF (vExtract v25 0) fun v27 =>
oF (vExtract v25 1) fun v28 =>
oF (vBin none .eql a2 (.int .u8 115)) fun v29 =>
if true = true then guardG False v29 false (fun J30 =>
oF (vBin none .eql a2 (.int .u8 111)) fun v33 =>
J30 (lookE [(46,(.v a2)),(47,(.v v33))]) σ26) σ26 (fun y31 σ32 =>
oF (vPick v29 (.bool true) (y31 47).pv) fun v34 =>
if true = true then guardG False v34 true (fun J35 =>
J35 (lookE [(50,(.v v28))]) σ32) σ32 (fun y36 σ37 =>
oF (vPick v34 (y36 50).pv (.bool false)) fun v38 =>
if true = true then guardG False v38 true (fun J39 =>
oF (vPart false 1 z1.2 1) fun v42 =>
oF (vPart false 1 z0.2 0) fun v43 =>
oF (vPart false 1 z0.2 3) fun v44 =>
oF (vIndex 9 v44 v27) fun v45 =>
oF (vField 1 v45) fun v46 =>
oF (vLoad false 1 v46 σ37) fun v47 =>
oF (vIndex 1 v43 v47) fun v48 =>
oF (vField 0 v48) fun v49 =>
oF (vLoad false 1 v49 σ37) fun v50 =>
oF (vLen .sl v50 σ37) fun v51 =>
callB W 42 [v42,v51] σ37 (fun v52 σ53 =>
J39 (lookE [(53,(.loc 5 1)),(54,(.v v42)),(55,(.loc 4 0)),(56,(.loc 4 0)),(57,(.v v43)),(58,(.loc 4 0)),(59,(.loc 4 3)),(60,(.v v44)),(61,(.v v27)),(62,(.v v45)),(63,(.v v46)),(64,(.v v47)),(65,(.v v48)),(66,(.v v49)),(67,(.v v50)),(68,(.v v51)),(69,(.v v52))]) σ53) (pNR R)) σ37 (fun y40 σ41 =>
oF (vPick v38 (y40 69).pv (.bool false)) fun v56 =>
wkR σ v56 σ41 R) else False) else False) else False) (pNR R)) (
oF (vBin none .eql v2 (.int .i64 2)) fun v59 =>
condW v59 (
oF (vPart true 12 z0.2 0) fun v60 =>
oF (vPart false 1 z1.2 2) fun v61 =>
callB W 228 [v60,a3,v61] σ (fun v62 σ63 =>
oF (vExtract v62 0) fun v64 =>
oF (vExtract v62 1) fun v65 =>
oF (vBin none .eql a2 (.int .u8 114)) fun v66 =>
if true = true then guardG False v66 true (fun J67 =>
J67 (lookE [(84,(.v v65))]) σ63) σ63 (fun y68 σ69 =>
oF (vPick v66 (y68 84).pv (.bool false)) fun v70 =>
if true = true then guardG False v70 true (fun J71 =>
oF (vPart false 1 z1.2 1) fun v74 =>
oF (vPart false 1 z0.2 3) fun v75 =>
oF (vIndex 9 v75 v64) fun v76 =>
oF (vField 8 v76) fun v77 =>
oF (vLoad false 1 v77 σ69) fun v78 =>
oF (vLen .sl v78 σ69) fun v79 =>
callB W 42 [v74,v79] σ69 (fun v80 σ81 =>
J71 (lookE [(87,(.loc 5 1)),(88,(.v v74)),(89,(.loc 4 0)),(90,(.loc 4 3)),(91,(.v v75)),(92,(.v v64)),(93,(.v v76)),(94,(.v v77)),(95,(.v v78)),(96,(.v v79)),(97,(.v v80))]) σ81) (pNR R)) σ69 (fun y72 σ73 =>
oF (vPick v70 (y72 97).pv (.bool false)) fun v84 =>
wkR σ v84 σ73 R) else False) else False) (pNR R)) (
wkR σ (.bool false) σ R)))
theorem fn118_eq (W : CallP) (a0 a1 a2 a3 : PV) (σ : St) (R : Res → St → Prop) : bodyC (algP W) Tryz.prog annF 118 [a0,a1,a2,a3] σ R = fn118 Tryz.prog W a0 a1 a2 a3 σ R := by kernel_rfl
def fn119 (Pr : Program) (W : CallP) (a0 a1 a2 a3 : PV) (σ : St) (R : Res → St → Prop) : Prop :=
oF (opC.vBoxAny a0) fun z0 =>
oF (opC.vBoxAny a1) fun z1 =>
CutW σ (fun J2 =>
oF (vBin none .eql a2 (.int .u8 110)) fun v5 =>
condW v5 (
wkR σ (.bool true) σ R) (
oF (vBin none .eql a2 (.int .u8 104)) fun v6 =>
condW v6 (
oF (vPart false 1 z1.2 10) fun v7 =>
oF (vBin none .eql v7 (.int .i64 0)) fun v8 =>
if true = true then guardG False v8 false (fun J9 =>
oF (vPart false 1 z1.2 10) fun v12 =>
oF (vBin none .eql v12 (.int .i64 1)) fun v13 =>
J9 (lookE [(18,(.loc 5 10)),(19,(.v v12)),(20,(.v v13))]) σ) σ (fun y10 σ11 =>
oF (vPick v8 (.bool true) (y10 20).pv) fun v14 =>
wkR σ v14 σ11 R) else False) (
oF (vBin none .eql a2 (.int .u8 98)) fun v15 =>
condW v15 (
oF (vPart false 1 z1.2 10) fun v16 =>
oF (vBin none .geq v16 (.int .i64 0)) fun v17 =>
if true = true then guardG False v17 true (fun J18 =>
oF (vPart false 1 z1.2 10) fun v21 =>
oF (vBin none .leq v21 (.int .i64 7)) fun v22 =>
J18 (lookE [(28,(.loc 5 10)),(29,(.v v21)),(30,(.v v22))]) σ) σ (fun y19 σ20 =>
oF (vPick v17 (y19 30).pv (.bool false)) fun v23 =>
wkR σ v23 σ20 R) else False) (
oF (vBin none .eql a2 (.int .u8 77)) fun v24 =>
condW v24 (
oF (vPart false 1 z1.2 1) fun v25 =>
oF (vBin none .neq v25 (.int .i64 0)) fun v26 =>
condW v26 (
oF (vPart false 1 z1.2 10) fun v27 =>
oF (vBin none .geq v27 (.int .i64 0)) fun v28 =>
if true = true then guardG False v28 true (fun J29 =>
oF (vPart false 1 z1.2 10) fun v32 =>
oF (vPart false 1 z0.2 0) fun v33 =>
oF (vLen .sl v33 σ) fun v34 =>
oF (vBin none .lss v32 v34) fun v35 =>
J29 (lookE [(42,(.loc 5 10)),(43,(.v v32)),(44,(.loc 4 0)),(45,(.loc 4 0)),(46,(.v v33)),(47,(.v v34)),(48,(.v v35))]) σ) σ (fun y30 σ31 =>
oF (vPick v28 (y30 48).pv (.bool false)) fun v36 =>
wkR σ v36 σ31 R) else False) (
packW [(5,z1.2)] fun x37 => J2 x37 σ)) (
packW [(5,z1.2)] fun x38 => J2 x38 σ))))) (fun x3 σ4 =>
oF (vPart false 1 (x3 5) 10) fun v39 =>
oF (vBin none .eql v39 (.int .i64 0)) fun v40 =>
wkR σ v40 σ4 R)
theorem fn119_eq (W : CallP) (a0 a1 a2 a3 : PV) (σ : St) (R : Res → St → Prop) : bodyC (algP W) Tryz.prog annF 119 [a0,a1,a2,a3] σ R = fn119 Tryz.prog W a0 a1 a2 a3 σ R := by kernel_rfl
def fn120 (Pr : Program) (W : CallP) (a0 a1 a2 a3 : PV) (σ : St) (R : Res → St → Prop) : Prop :=
oF (opC.vBoxAny a0) fun z0 =>
oF (opC.vBoxAny a1) fun z1 =>
oF (vPart false 1 z1.2 11) fun v2 =>
CutW σ (fun J3 =>
oF (vBin none .eql a2 (.int .u8 101)) fun v6 =>
condW v6 (
oF (vBin none .geq v2 (.int .i64 (-1000))) fun v7 =>
if true = true then guardG False v7 true (fun J8 =>
oF (vBin none .leq v2 (.int .i64 1000)) fun v11 =>
J8 (lookE [(21,(.v v2)),(22,(.v v11))]) σ) σ (fun y9 σ10 =>
oF (vPick v7 (y9 22).pv (.bool false)) fun v12 =>
wkR σ v12 σ10 R) else False) (
oF (vBin none .eql a2 (.int .u8 104)) fun v13 =>
condW v13 (
packW [(9,v2),(10,(.int .i64 2))] fun x14 => J3 x14 σ) (
oF (vBin none .eql a2 (.int .u8 100)) fun v15 =>
condW v15 (
packW [(9,v2),(10,(.int .i64 3))] fun x16 => J3 x16 σ) (
oF (vBin none .eql a2 (.int .u8 68)) fun v17 =>
condW v17 (
oF (vBin none .geq v2 (.int .i64 1)) fun v18 =>
if true = true then guardG False v18 true (fun J19 =>
oF (vBin none .leq v2 (.int .i64 3)) fun v22 =>
J19 (lookE [(33,(.v v2)),(34,(.v v22))]) σ) σ (fun y20 σ21 =>
oF (vPick v18 (y20 34).pv (.bool false)) fun v23 =>
wkR σ v23 σ21 R) else False) (
oF (vBin none .eql a2 (.int .u8 117)) fun v24 =>
condW v24 (
packW [(9,v2),(10,(.int .i64 64))] fun x25 => J3 x25 σ) (
oF (vBin none .eql a2 (.int .u8 111)) fun v26 =>
condW v26 (
condW v26 (
packW [(9,v2),(10,(.int .i64 1000))] fun x27 => J3 x27 σ) (
oF (vBin none .eql a2 (.int .u8 109)) fun v28 =>
condW v28 (
oF (vPart false 1 z0.2 0) fun v29 =>
oF (vLen .sl v29 σ) fun v30 =>
packW [(9,v2),(10,v30)] fun x31 => J3 x31 σ) (
oF (vBin none .eql a2 (.int .u8 116)) fun v32 =>
condW v32 (
oF (vPart false 1 z0.2 7) fun v33 =>
oF (vLen .sl v33 σ) fun v34 =>
packW [(9,v2),(10,v34)] fun x35 => J3 x35 σ) (
oF (vBin none .eql a2 (.int .u8 99)) fun v36 =>
condW v36 (
oF (vPart false 1 z0.2 5) fun v37 =>
oF (vLen .sl v37 σ) fun v38 =>
packW [(9,v2),(10,v38)] fun x39 => J3 x39 σ) (
oF (vBin none .eql a2 (.int .u8 112)) fun v40 =>
condW v40 (
oF (vPart false 1 z0.2 6) fun v41 =>
oF (vLen .sl v41 σ) fun v42 =>
packW [(9,v2),(10,v42)] fun x43 => J3 x43 σ) (
oF (vBin none .eql a2 (.int .u8 120)) fun v44 =>
condW v44 (
oF (vPart false 1 z0.2 8) fun v45 =>
oF (vLen .sl v45 σ) fun v46 =>
packW [(9,v2),(10,v46)] fun x47 => J3 x47 σ) (
oF (vBin none .eql a2 (.int .u8 102)) fun v48 =>
condW v48 (
oF (vBin none .gtr v2 (.int .i64 0)) fun v49 =>
if true = true then guardG False v49 true (fun J50 =>
oF (vPart false 1 z0.2 3) fun v53 =>
oF (vLen .sl v53 σ) fun v54 =>
oF (vBin none .lss v2 v54) fun v55 =>
J50 (lookE [(76,(.v v2)),(77,(.loc 4 0)),(78,(.loc 4 3)),(79,(.v v53)),(80,(.v v54)),(81,(.v v55))]) σ) σ (fun y51 σ52 =>
oF (vPick v49 (y51 81).pv (.bool false)) fun v56 =>
if true = true then guardG False v56 true (fun J57 =>
oF (vPart false 1 z0.2 3) fun v60 =>
oF (vIndex 9 v60 v2) fun v61 =>
oF (vField 4 v61) fun v62 =>
oF (vLoad false 1 v62 σ52) fun v63 =>
oF (vBin none .eql v63 a3) fun v64 =>
J57 (lookE [(84,(.loc 4 0)),(85,(.loc 4 3)),(86,(.v v60)),(87,(.v v2)),(88,(.v v61)),(89,(.v v62)),(90,(.v v63)),(91,(.v a3)),(92,(.v v64))]) σ52) σ52 (fun y58 σ59 =>
oF (vPick v56 (y58 92).pv (.bool false)) fun v65 =>
wkR σ v65 σ59 R) else False) else False) (
oF (vBin none .eql a2 (.int .u8 103)) fun v66 =>
condW v66 (
oF (vBin none .gtr v2 (.int .i64 0)) fun v67 =>
if true = true then guardG False v67 true (fun J68 =>
oF (vPart false 1 z0.2 3) fun v71 =>
oF (vIndex 9 v71 a3) fun v72 =>
oF (vField 8 v72) fun v73 =>
oF (vLoad false 1 v73 σ) fun v74 =>
oF (vLen .sl v74 σ) fun v75 =>
oF (vBin none .lss v2 v75) fun v76 =>
J68 (lookE [(99,(.v v2)),(100,(.loc 4 0)),(101,(.loc 4 3)),(102,(.v v71)),(103,(.v a3)),(104,(.v v72)),(105,(.v v73)),(106,(.v v74)),(107,(.v v75)),(108,(.v v76))]) σ) σ (fun y69 σ70 =>
oF (vPick v67 (y69 108).pv (.bool false)) fun v77 =>
wkR σ v77 σ70 R) else False) (
oF (vBin none .eql a2 (.int .u8 106)) fun v78 =>
condW v78 (
oF (vPart false 1 z0.2 3) fun v79 =>
oF (vIndex 9 v79 a3) fun v80 =>
oF (vField 2 v80) fun v81 =>
oF (vLoad false 1 v81 σ) fun v82 =>
oF (vBin none .leq v82 v2) fun v83 =>
if true = true then guardG False v83 true (fun J84 =>
oF (vPart false 1 z0.2 3) fun v87 =>
oF (vIndex 9 v87 a3) fun v88 =>
oF (vField 3 v88) fun v89 =>
oF (vLoad false 1 v89 σ) fun v90 =>
oF (vBin none .lss v2 v90) fun v91 =>
J84 (lookE [(122,(.v v2)),(123,(.loc 4 0)),(124,(.loc 4 3)),(125,(.v v87)),(126,(.v a3)),(127,(.v v88)),(128,(.v v89)),(129,(.v v90)),(130,(.v v91))]) σ) σ (fun y85 σ86 =>
oF (vPick v83 (y85 130).pv (.bool false)) fun v92 =>
wkR σ v92 σ86 R) else False) (
oF (vBin none .eql a2 (.int .u8 74)) fun v93 =>
condW v93 (
oF (vPart true 12 z0.2 0) fun v94 =>
oF (vPart false 1 z1.2 3) fun v95 =>
callB W 227 [v94,a3,v95] σ (fun v96 σ97 =>
oF (vExtract v96 0) fun v98 =>
oF (vExtract v96 1) fun v99 =>
oF (vPart false 1 z0.2 3) fun v100 =>
oF (vIndex 9 v100 v98) fun v101 =>
oF (vField 2 v101) fun v102 =>
oF (vLoad false 1 v102 σ97) fun v103 =>
oF (vBin none .leq v103 v2) fun v104 =>
if true = true then guardG False v104 true (fun J105 =>
oF (vPart false 1 z0.2 3) fun v108 =>
oF (vIndex 9 v108 v98) fun v109 =>
oF (vField 3 v109) fun v110 =>
oF (vLoad false 1 v110 σ97) fun v111 =>
oF (vBin none .lss v2 v111) fun v112 =>
J105 (lookE [(153,(.v v2)),(154,(.loc 4 0)),(155,(.loc 4 3)),(156,(.v v108)),(157,(.v v98)),(158,(.v v109)),(159,(.v v110)),(160,(.v v111)),(161,(.v v112))]) σ97) σ97 (fun y106 σ107 =>
oF (vPick v104 (y106 161).pv (.bool false)) fun v113 =>
wkR σ v113 σ107 R) else False) (pNR R)) (
oF (vBin none .eql a2 (.int .u8 113)) fun v116 =>
condW v116 (
oF (vPart false 1 z0.2 10) fun v117 =>
packW [(9,v2),(10,v117)] fun x118 => J3 x118 σ) (
oF (vBin none .eql a2 (.int .u8 105)) fun v119 =>
condW v119 (
oF (vPart false 1 z0.2 11) fun v120 =>
packW [(9,v2),(10,v120)] fun x121 => J3 x121 σ) (
packW [(9,v2),(10,(.int .i64 1))] fun x122 => J3 x122 σ))))))))))))) (
oF (vBin none .eql a2 (.int .u8 107)) fun v123 =>
condW v123 (
packW [(9,v2),(10,(.int .i64 1000))] fun x124 => J3 x124 σ) (
oF (vBin none .eql a2 (.int .u8 109)) fun v125 =>
condW v125 (
oF (vPart false 1 z0.2 0) fun v126 =>
oF (vLen .sl v126 σ) fun v127 =>
packW [(9,v2),(10,v127)] fun x128 => J3 x128 σ) (
oF (vBin none .eql a2 (.int .u8 116)) fun v129 =>
condW v129 (
oF (vPart false 1 z0.2 7) fun v130 =>
oF (vLen .sl v130 σ) fun v131 =>
packW [(9,v2),(10,v131)] fun x132 => J3 x132 σ) (
oF (vBin none .eql a2 (.int .u8 99)) fun v133 =>
condW v133 (
oF (vPart false 1 z0.2 5) fun v134 =>
oF (vLen .sl v134 σ) fun v135 =>
packW [(9,v2),(10,v135)] fun x136 => J3 x136 σ) (
oF (vBin none .eql a2 (.int .u8 112)) fun v137 =>
condW v137 (
oF (vPart false 1 z0.2 6) fun v138 =>
oF (vLen .sl v138 σ) fun v139 =>
packW [(9,v2),(10,v139)] fun x140 => J3 x140 σ) (
oF (vBin none .eql a2 (.int .u8 120)) fun v141 =>
condW v141 (
oF (vPart false 1 z0.2 8) fun v142 =>
oF (vLen .sl v142 σ) fun v143 =>
packW [(9,v2),(10,v143)] fun x144 => J3 x144 σ) (
oF (vBin none .eql a2 (.int .u8 102)) fun v145 =>
condW v145 (
oF (vBin none .gtr v2 (.int .i64 0)) fun v146 =>
if true = true then guardG False v146 true (fun J147 =>
oF (vPart false 1 z0.2 3) fun v150 =>
oF (vLen .sl v150 σ) fun v151 =>
oF (vBin none .lss v2 v151) fun v152 =>
J147 (lookE [(76,(.v v2)),(77,(.loc 4 0)),(78,(.loc 4 3)),(79,(.v v150)),(80,(.v v151)),(81,(.v v152))]) σ) σ (fun y148 σ149 =>
oF (vPick v146 (y148 81).pv (.bool false)) fun v153 =>
if true = true then guardG False v153 true (fun J154 =>
oF (vPart false 1 z0.2 3) fun v157 =>
oF (vIndex 9 v157 v2) fun v158 =>
oF (vField 4 v158) fun v159 =>
oF (vLoad false 1 v159 σ149) fun v160 =>
oF (vBin none .eql v160 a3) fun v161 =>
J154 (lookE [(84,(.loc 4 0)),(85,(.loc 4 3)),(86,(.v v157)),(87,(.v v2)),(88,(.v v158)),(89,(.v v159)),(90,(.v v160)),(91,(.v a3)),(92,(.v v161))]) σ149) σ149 (fun y155 σ156 =>
oF (vPick v153 (y155 92).pv (.bool false)) fun v162 =>
wkR σ v162 σ156 R) else False) else False) (
oF (vBin none .eql a2 (.int .u8 103)) fun v163 =>
condW v163 (
oF (vBin none .gtr v2 (.int .i64 0)) fun v164 =>
if true = true then guardG False v164 true (fun J165 =>
oF (vPart false 1 z0.2 3) fun v168 =>
oF (vIndex 9 v168 a3) fun v169 =>
oF (vField 8 v169) fun v170 =>
oF (vLoad false 1 v170 σ) fun v171 =>
oF (vLen .sl v171 σ) fun v172 =>
oF (vBin none .lss v2 v172) fun v173 =>
J165 (lookE [(99,(.v v2)),(100,(.loc 4 0)),(101,(.loc 4 3)),(102,(.v v168)),(103,(.v a3)),(104,(.v v169)),(105,(.v v170)),(106,(.v v171)),(107,(.v v172)),(108,(.v v173))]) σ) σ (fun y166 σ167 =>
oF (vPick v164 (y166 108).pv (.bool false)) fun v174 =>
wkR σ v174 σ167 R) else False) (
oF (vBin none .eql a2 (.int .u8 106)) fun v175 =>
condW v175 (
oF (vPart false 1 z0.2 3) fun v176 =>
oF (vIndex 9 v176 a3) fun v177 =>
oF (vField 2 v177) fun v178 =>
oF (vLoad false 1 v178 σ) fun v179 =>
oF (vBin none .leq v179 v2) fun v180 =>
if true = true then guardG False v180 true (fun J181 =>
oF (vPart false 1 z0.2 3) fun v184 =>
oF (vIndex 9 v184 a3) fun v185 =>
oF (vField 3 v185) fun v186 =>
oF (vLoad false 1 v186 σ) fun v187 =>
oF (vBin none .lss v2 v187) fun v188 =>
J181 (lookE [(122,(.v v2)),(123,(.loc 4 0)),(124,(.loc 4 3)),(125,(.v v184)),(126,(.v a3)),(127,(.v v185)),(128,(.v v186)),(129,(.v v187)),(130,(.v v188))]) σ) σ (fun y182 σ183 =>
oF (vPick v180 (y182 130).pv (.bool false)) fun v189 =>
wkR σ v189 σ183 R) else False) (
oF (vBin none .eql a2 (.int .u8 74)) fun v190 =>
condW v190 (
oF (vPart true 12 z0.2 0) fun v191 =>
oF (vPart false 1 z1.2 3) fun v192 =>
callB W 227 [v191,a3,v192] σ (fun v193 σ194 =>
oF (vExtract v193 0) fun v195 =>
oF (vExtract v193 1) fun v196 =>
oF (vPart false 1 z0.2 3) fun v197 =>
oF (vIndex 9 v197 v195) fun v198 =>
oF (vField 2 v198) fun v199 =>
oF (vLoad false 1 v199 σ194) fun v200 =>
oF (vBin none .leq v200 v2) fun v201 =>
if true = true then guardG False v201 true (fun J202 =>
oF (vPart false 1 z0.2 3) fun v205 =>
oF (vIndex 9 v205 v195) fun v206 =>
oF (vField 3 v206) fun v207 =>
oF (vLoad false 1 v207 σ194) fun v208 =>
oF (vBin none .lss v2 v208) fun v209 =>
J202 (lookE [(153,(.v v2)),(154,(.loc 4 0)),(155,(.loc 4 3)),(156,(.v v205)),(157,(.v v195)),(158,(.v v206)),(159,(.v v207)),(160,(.v v208)),(161,(.v v209))]) σ194) σ194 (fun y203 σ204 =>
oF (vPick v201 (y203 161).pv (.bool false)) fun v210 =>
wkR σ v210 σ204 R) else False) (pNR R)) (
oF (vBin none .eql a2 (.int .u8 113)) fun v213 =>
condW v213 (
oF (vPart false 1 z0.2 10) fun v214 =>
packW [(9,v2),(10,v214)] fun x215 => J3 x215 σ) (
oF (vBin none .eql a2 (.int .u8 105)) fun v216 =>
condW v216 (
oF (vPart false 1 z0.2 11) fun v217 =>
packW [(9,v2),(10,v217)] fun x218 => J3 x218 σ) (
packW [(9,v2),(10,(.int .i64 1))] fun x219 => J3 x219 σ))))))))))))))))))) (fun x4 σ5 =>
callB W 42 [(x4 9),(x4 10)] σ5 (fun v220 σ221 =>
wkR σ v220 σ221 R) (pNR R))
theorem fn120_eq (W : CallP) (a0 a1 a2 a3 : PV) (σ : St) (R : Res → St → Prop) : bodyC (algP W) Tryz.prog annF 120 [a0,a1,a2,a3] σ R = fn120 Tryz.prog W a0 a1 a2 a3 σ R := by kernel_rfl
def fn121 (Pr : Program) (W : CallP) (a0 a1 a2 : PV) (σ : St) (R : Res → St → Prop) : Prop :=
oF (opC.vBoxAny a0) fun z0 =>
oF (opC.vBoxAny a1) fun z1 =>
CutW σ (fun J2 =>
oF (vPart false 1 z1.2 0) fun v5 =>
oF (vBin none .eql v5 (.int .i64 11)) fun v6 =>
condW v6 (
condW v6 (
oF (vPart false 1 z0.2 5) fun v7 =>
oF (vPart false 1 z1.2 11) fun v8 =>
oF (vIndex 1 v7 v8) fun v9 =>
oF (vLoad false 1 v9 σ) fun v10 =>
oF (vPart false 1 z0.2 3) fun v11 =>
oF (vIndex 9 v11 a2) fun v12 =>
oF (vLoad true 9 v12 σ) fun v13 =>
newW 9 (.agg [(.int .i64 0),(.int .i64 0),(.int .i64 0),(.int .i64 0),(.int .i64 0),(.int .i64 0),(.int .i64 0),(.int .i64 0),(.list .nil [])]) σ fun p14 σ15 =>
oF (vStore 9 p14 v13 σ15) fun σ16 =>
oF (vLen .sl v10 σ16) fun v17 =>
oF (vBin none .eql v17 (.int .i64 0)) fun v18 =>
if true = true then guardG False v18 false (fun J19 =>
callB W 113 [v10,(.func 229 0 [p14])] σ16 (fun v22 σ23 =>
J19 (lookE [(32,(.v v10)),(33,(.v (.func 229 0 [p14]))),(34,(.v v22))]) σ23) (pNR R)) σ16 (fun y20 σ21 =>
oF (vPick v18 (.bool true) (y20 34).pv) fun v26 =>
condW v26 (
wkR σ (.int .i64 11) σ21 R) (
packW [] fun x27 => J2 x27 σ21)) else False) (
oF (vBin none .eql v5 (.int .i64 23)) fun v28 =>
condW v28 (
oF (vPart false 1 z0.2 6) fun v29 =>
oF (vPart false 1 z1.2 11) fun v30 =>
oF (vIndex 1 v29 v30) fun v31 =>
oF (vLoad false 1 v31 σ) fun v32 =>
callB W 113 [v32,(.func 230 0 [])] σ (fun v33 σ34 =>
condW v33 (
wkR σ (.int .i64 11) σ34 R) (
packW [] fun x35 => J2 x35 σ34)) (pNR R)) (
packW [] fun x38 => J2 x38 σ))) (
oF (vBin none .eql v5 (.int .i64 12)) fun v39 =>
condW v39 (
condW v39 (
oF (vPart false 1 z0.2 5) fun v40 =>
oF (vPart false 1 z1.2 11) fun v41 =>
oF (vIndex 1 v40 v41) fun v42 =>
oF (vLoad false 1 v42 σ) fun v43 =>
oF (vPart false 1 z0.2 3) fun v44 =>
oF (vIndex 9 v44 a2) fun v45 =>
oF (vLoad true 9 v45 σ) fun v46 =>
newW 9 (.agg [(.int .i64 0),(.int .i64 0),(.int .i64 0),(.int .i64 0),(.int .i64 0),(.int .i64 0),(.int .i64 0),(.int .i64 0),(.list .nil [])]) σ fun p47 σ48 =>
oF (vStore 9 p47 v46 σ48) fun σ49 =>
oF (vLen .sl v43 σ49) fun v50 =>
oF (vBin none .eql v50 (.int .i64 0)) fun v51 =>
if true = true then guardG False v51 false (fun J52 =>
callB W 113 [v43,(.func 229 0 [p47])] σ49 (fun v55 σ56 =>
J52 (lookE [(32,(.v v43)),(33,(.v (.func 229 0 [p47]))),(34,(.v v55))]) σ56) (pNR R)) σ49 (fun y53 σ54 =>
oF (vPick v51 (.bool true) (y53 34).pv) fun v59 =>
condW v59 (
wkR σ (.int .i64 11) σ54 R) (
packW [] fun x60 => J2 x60 σ54)) else False) (
oF (vBin none .eql v5 (.int .i64 23)) fun v61 =>
condW v61 (
oF (vPart false 1 z0.2 6) fun v62 =>
oF (vPart false 1 z1.2 11) fun v63 =>
oF (vIndex 1 v62 v63) fun v64 =>
oF (vLoad false 1 v64 σ) fun v65 =>
callB W 113 [v65,(.func 230 0 [])] σ (fun v66 σ67 =>
condW v66 (
wkR σ (.int .i64 11) σ67 R) (
packW [] fun x68 => J2 x68 σ67)) (pNR R)) (
packW [] fun x71 => J2 x71 σ))) (
oF (vBin none .eql v5 (.int .i64 19)) fun v72 =>
condW v72 (
oF (vPart false 1 z0.2 5) fun v73 =>
oF (vPart false 1 z1.2 11) fun v74 =>
oF (vIndex 1 v73 v74) fun v75 =>
oF (vLoad false 1 v75 σ) fun v76 =>
oF (vPart false 1 z0.2 3) fun v77 =>
oF (vIndex 9 v77 a2) fun v78 =>
oF (vLoad true 9 v78 σ) fun v79 =>
newW 9 (.agg [(.int .i64 0),(.int .i64 0),(.int .i64 0),(.int .i64 0),(.int .i64 0),(.int .i64 0),(.int .i64 0),(.int .i64 0),(.list .nil [])]) σ fun p80 σ81 =>
oF (vStore 9 p80 v79 σ81) fun σ82 =>
oF (vLen .sl v76 σ82) fun v83 =>
oF (vBin none .eql v83 (.int .i64 0)) fun v84 =>
if true = true then guardG False v84 false (fun J85 =>
callB W 113 [v76,(.func 229 0 [p80])] σ82 (fun v88 σ89 =>
J85 (lookE [(32,(.v v76)),(33,(.v (.func 229 0 [p80]))),(34,(.v v88))]) σ89) (pNR R)) σ82 (fun y86 σ87 =>
oF (vPick v84 (.bool true) (y86 34).pv) fun v92 =>
condW v92 (
wkR σ (.int .i64 11) σ87 R) (
packW [] fun x93 => J2 x93 σ87)) else False) (
oF (vBin none .eql v5 (.int .i64 23)) fun v94 =>
condW v94 (
oF (vPart false 1 z0.2 6) fun v95 =>
oF (vPart false 1 z1.2 11) fun v96 =>
oF (vIndex 1 v95 v96) fun v97 =>
oF (vLoad false 1 v97 σ) fun v98 =>
callB W 113 [v98,(.func 230 0 [])] σ (fun v99 σ100 =>
condW v99 (
wkR σ (.int .i64 11) σ100 R) (
packW [] fun x101 => J2 x101 σ100)) (pNR R)) (
packW [] fun x104 => J2 x104 σ))))) (fun x3 σ4 =>
wkR σ (.int .i64 0) σ4 R)
theorem fn121_eq (W : CallP) (a0 a1 a2 : PV) (σ : St) (R : Res → St → Prop) : bodyC (algP W) Tryz.prog annF 121 [a0,a1,a2] σ R = fn121 Tryz.prog W a0 a1 a2 σ R := by kernel_rfl
def fn124 (Pr : Program) (W : CallP) (a0 a1 : PV) (σ : St) (R : Res → St → Prop) : Prop :=
oF (opC.vBoxAny a0) fun z0 =>
oF (vPart false 1 z0.2 3) fun v1 =>
oF (vIndex 9 v1 a1) fun v2 =>
oF (vLoad true 9 v2 σ) fun v3 =>
oF (vPut 9 (.agg [(.int .i64 0),(.int .i64 0),(.int .i64 0),(.int .i64 0),(.int .i64 0),(.int .i64 0),(.int .i64 0),(.int .i64 0),(.list .nil [])]) 0 v3) fun z4 =>
oF (vPart false 1 z0.2 2) fun v5 =>
oF (vPart false 1 z4 0) fun v6 =>
oF (vIndex 2 v5 v6) fun v7 =>
oF (vLoad true 2 v7 σ) fun v8 =>
oF (vPut 2 (.agg [(.int .i64 0),(.int .i64 0)]) 0 v8) fun z9 =>
oF (vBuildSl 5 (List.replicate 0 (.agg [(.int .i64 0),(.int .i64 0),(.int .i64 0),(.int .i64 0),(.bool false)])) []) fun v10 =>
oF (vPart false 1 z0.2 0) fun v11 =>
oF (vPart false 1 z9 1) fun v12 =>
oF (vIndex 1 v11 v12) fun v13 =>
oF (vField 0 v13) fun v14 =>
oF (vLoad false 1 v14 σ) fun v15 =>
oF (vPart false 1 z0.2 0) fun v16 =>
oF (vPart false 1 z9 0) fun v17 =>
oF (vIndex 1 v16 v17) fun v18 =>
oF (vField 0 v18) fun v19 =>
oF (vLoad false 1 v19 []) fun v20 =>
bindS (vAppend 5 40 (.list .full v10) v15 σ) fun v21 σ22 =>
bindS (vAppend 5 40 v21 v20 σ22) fun v23 σ24 =>
oF (vPart false 1 z0.2 0) fun v25 =>
oF (vPart false 1 z4 1) fun v26 =>
oF (vIndex 1 v25 v26) fun v27 =>
oF (vField 0 v27) fun v28 =>
oF (vLoad false 1 v28 σ24) fun v29 =>
oF (vBin none .eql a1 (.int .i64 0)) fun v30 =>
if true = true then guardG False v30 true (fun J31 =>
oF (vLen .sl v23 σ24) fun v34 =>
oF (vBin none .gtr v34 (.int .i64 0)) fun v35 =>
J31 (lookE [(48,(.v v23)),(49,(.v v34)),(50,(.v v35))]) σ24) σ24 (fun y32 σ33 =>
oF (vPick v30 (y32 50).pv (.bool false)) fun v36 =>
if true = true then guardG False v36 false (fun J37 =>
oF (vLen .sl v23 σ33) fun v40 =>
oF (vLen .sl v29 σ33) fun v41 =>
oF (vBin none .gtr v40 v41) fun v42 =>
J37 (lookE [(53,(.v v23)),(54,(.v v40)),(55,(.v v29)),(56,(.v v41)),(57,(.v v42))]) σ33) σ33 (fun y38 σ39 =>
oF (vPick v36 (.bool true) (y38 57).pv) fun v43 =>
condW v43 (
wkR σ (.bool false) σ39 R) (
CutW σ (fun J44 =>
packW [(7,v23),(8,v29),(9,(.int .i64 0))] fun x60 =>
Lfp σ (fun Φ47 x48 σ49 =>
oF (vLen .sl (x48 7) σ49) fun v50 =>
oF (vBin none .lss (x48 9) v50) fun v51 =>
condW v51 (
oF (vIndex 5 (x48 7) (x48 9)) fun v52 =>
oF (vLoad true 5 v52 σ49) fun v53 =>
oF (vIndex 5 (x48 8) (x48 9)) fun v54 =>
oF (vLoad true 5 v54 σ49) fun v55 =>
oF (vBin (some (.st [.int,.int,.int,.int,.bool])) .neq v53 v55) fun v56 =>
condW v56 (
wkR σ (.bool false) σ49 R) (
oF (vBin none .add (x48 9) (.int .i64 1)) fun v57 =>
packW [(7,(x48 7)),(8,(x48 8)),(9,v57)] fun x58 => Φ47 x58 σ49)) (
packW [] fun x59 => J44 x59 σ49)) x60 σ39) (fun x45 σ46 =>
wkR σ (.bool true) σ46 R))) else False) else False
theorem fn124_eq (W : CallP) (a0 a1 : PV) (σ : St) (R : Res → St → Prop) : bodyC (algP W) Tryz.prog annF 124 [a0,a1] σ R = fn124 Tryz.prog W a0 a1 σ R := by kernel_rfl
def fn125 (Pr : Program) (W : CallP) (a0 a1 a2 : PV) (σ : St) (R : Res → St → Prop) : Prop :=
oF (opC.vBoxAny a0) fun z0 =>
oF (vBin none .lss a2 (.int .i64 0)) fun v1 =>
if true = true then guardG False v1 false (fun J2 =>
oF (vPart false 1 z0.2 3) fun v5 =>
oF (vLen .sl v5 σ) fun v6 =>
oF (vBin none .gtr a2 v6) fun v7 =>
J2 (lookE [(11,(.v a2)),(12,(.loc 3 3)),(13,(.v v5)),(14,(.v v6)),(15,(.v v7))]) σ) σ (fun y3 σ4 =>
oF (vPick v1 (.bool true) (y3 15).pv) fun v8 =>
condW v8 (
wkR σ (.int .i64 (-1)) σ4 R) (
CutW σ (fun J9 =>
packW [(1,a1),(2,a2),(7,(.int .i64 0)),(3,z0.2)] fun x28 =>
Lfp σ (fun Φ12 x13 σ14 =>
oF (vBin none .lss (x13 7) (x13 2)) fun v15 =>
if true = true then guardG False v15 true (fun J16 =>
oF (vBin none .geq (x13 1) (.int .i64 0)) fun v19 =>
J16 (lookE [(21,(.v (x13 1))),(22,(.v v19))]) σ14) σ14 (fun y17 σ18 =>
oF (vPick v15 (y17 22).pv (.bool false)) fun v20 =>
condW v20 (
oF (vPart false 1 (x13 3) 3) fun v21 =>
oF (vIndex 9 v21 (x13 1)) fun v22 =>
oF (vField 4 v22) fun v23 =>
oF (vLoad false 1 v23 σ18) fun v24 =>
oF (vBin none .add (x13 7) (.int .i64 1)) fun v25 =>
packW [(1,v24),(2,(x13 2)),(7,v25),(3,(x13 3))] fun x26 => Φ12 x26 σ18) (
packW [(1,(x13 1))] fun x27 => J9 x27 σ18)) else False) x28 σ4) (fun x10 σ11 =>
wkR σ (x10 1) σ11 R))) else False
theorem fn125_eq (W : CallP) (a0 a1 a2 : PV) (σ : St) (R : Res → St → Prop) : bodyC (algP W) Tryz.prog annF 125 [a0,a1,a2] σ R = fn125 Tryz.prog W a0 a1 a2 σ R := by kernel_rfl
def fn132 (Pr : Program) (W : CallP) (a0 a1 a2 a3 : PV) (σ : St) (R : Res → St → Prop) : Prop :=
oF (opC.vBoxAny a0) fun z0 =>
oF (opC.vBoxAny a2) fun z1 =>
oF (vPart false 1 z1.2 0) fun v2 =>
oF (vBin none .eql v2 (.int .i64 0)) fun v3 =>
condW v3 (
oF (vBin none .eql a3 (.int .u8 45)) fun v4 =>
if true = true then guardG False v4 false (fun J5 =>
oF (vBin none .eql a3 (.int .u8 111)) fun v8 =>
J5 (lookE [(16,(.v a3)),(17,(.v v8))]) σ) σ (fun y6 σ7 =>
oF (vPick v4 (.bool true) (y6 17).pv) fun v9 =>
if true = true then guardG False v9 true (fun J10 =>
oF (vPart false 1 z1.2 1) fun v13 =>
oF (vBin none .eql v13 (.int .i64 0)) fun v14 =>
J10 (lookE [(20,(.loc 6 1)),(21,(.v v13)),(22,(.v v14))]) σ7) σ7 (fun y11 σ12 =>
oF (vPick v9 (y11 22).pv (.bool false)) fun v15 =>
if true = true then guardG False v15 true (fun J16 =>
oF (vPart false 1 z1.2 2) fun v19 =>
oF (vBin none .eql v19 (.int .i64 0)) fun v20 =>
J16 (lookE [(25,(.loc 6 2)),(26,(.v v19)),(27,(.v v20))]) σ12) σ12 (fun y17 σ18 =>
oF (vPick v15 (y17 27).pv (.bool false)) fun v21 =>
wkR σ v21 σ18 R) else False) else False) else False) (
oF (vPart true 10 z0.2 0) fun v22 =>
oF (vPart false 1 z1.2 2) fun v23 =>
callB W 125 [v22,a1,v23] σ (fun v24 σ25 =>
oF (vBin none .lss v24 (.int .i64 0)) fun v26 =>
if true = true then guardG False v26 false (fun J27 =>
oF (vPart true 10 z0.2 0) fun v30 =>
oF (vPart false 1 z1.2 2) fun v31 =>
callB W 234 [v30,a1,v31] σ25 (fun v32 σ33 =>
oF (vUn .not v32) fun v34 =>
J27 (lookE [(37,(.v v30)),(38,(.v a1)),(39,(.loc 6 2)),(40,(.v v31)),(41,(.v v32)),(42,(.v v34))]) σ33) (pNR R)) σ25 (fun y28 σ29 =>
oF (vPick v26 (.bool true) (y28 42).pv) fun v37 =>
condW v37 (
wkR σ (.bool false) σ29 R) (
oF (vPart false 1 z1.2 0) fun v38 =>
oF (vBin none .eql v38 (.int .i64 1)) fun v39 =>
condW v39 (
oF (vBin none .eql a3 (.int .u8 115)) fun v40 =>
if true = true then guardG False v40 false (fun J41 =>
oF (vBin none .eql a3 (.int .u8 111)) fun v44 =>
J41 (lookE [(50,(.v a3)),(51,(.v v44))]) σ29) σ29 (fun y42 σ43 =>
oF (vPick v40 (.bool true) (y42 51).pv) fun v45 =>
if true = true then guardG False v45 true (fun J46 =>
oF (vPart false 1 z1.2 1) fun v49 =>
oF (vPart false 1 z0.2 0) fun v50 =>
oF (vPart false 1 z0.2 3) fun v51 =>
oF (vIndex 9 v51 v24) fun v52 =>
oF (vField 1 v52) fun v53 =>
oF (vLoad false 1 v53 σ43) fun v54 =>
oF (vIndex 1 v50 v54) fun v55 =>
oF (vField 0 v55) fun v56 =>
oF (vLoad false 1 v56 σ43) fun v57 =>
oF (vLen .sl v57 σ43) fun v58 =>
callB W 75 [v49,v58] σ43 (fun v59 σ60 =>
J46 (lookE [(54,(.loc 6 1)),(55,(.v v49)),(56,(.loc 4 0)),(57,(.v v50)),(58,(.loc 4 3)),(59,(.v v51)),(60,(.v v24)),(61,(.v v52)),(62,(.v v53)),(63,(.v v54)),(64,(.v v55)),(65,(.v v56)),(66,(.v v57)),(67,(.v v58)),(68,(.v v59))]) σ60) (pNR R)) σ43 (fun y47 σ48 =>
oF (vPick v45 (y47 68).pv (.bool false)) fun v63 =>
wkR σ v63 σ48 R) else False) else False) (
oF (vPart false 1 z1.2 0) fun v64 =>
oF (vBin none .eql v64 (.int .i64 2)) fun v65 =>
if true = true then guardG False v65 true (fun J66 =>
oF (vBin none .eql a3 (.int .u8 114)) fun v69 =>
J66 (lookE [(74,(.v a3)),(75,(.v v69))]) σ29) σ29 (fun y67 σ68 =>
oF (vPick v65 (y67 75).pv (.bool false)) fun v70 =>
if true = true then guardG False v70 true (fun J71 =>
oF (vPart false 1 z1.2 1) fun v74 =>
oF (vPart false 1 z0.2 3) fun v75 =>
oF (vIndex 9 v75 v24) fun v76 =>
oF (vField 8 v76) fun v77 =>
oF (vLoad false 1 v77 σ68) fun v78 =>
oF (vLen .sl v78 σ68) fun v79 =>
callB W 75 [v74,v79] σ68 (fun v80 σ81 =>
J71 (lookE [(78,(.loc 6 1)),(79,(.v v74)),(80,(.loc 4 3)),(81,(.v v75)),(82,(.v v24)),(83,(.v v76)),(84,(.v v77)),(85,(.v v78)),(86,(.v v79)),(87,(.v v80))]) σ81) (pNR R)) σ68 (fun y72 σ73 =>
oF (vPick v70 (y72 87).pv (.bool false)) fun v84 =>
wkR σ v84 σ73 R) else False) else False))) else False) (pNR R))
theorem fn132_eq (W : CallP) (a0 a1 a2 a3 : PV) (σ : St) (R : Res → St → Prop) : bodyC (algP W) Tryz.prog annF 132 [a0,a1,a2,a3] σ R = fn132 Tryz.prog W a0 a1 a2 a3 σ R := by kernel_rfl
def fn133 (Pr : Program) (W : CallP) (a0 a1 a2 : PV) (σ : St) (R : Res → St → Prop) : Prop :=
oF (opC.vBoxAny a0) fun z0 =>
oF (opC.vBoxAny a1) fun z1 =>
oF (vBin none .eql a2 (.int .u8 110)) fun v2 =>
condW v2 (
wkR σ (.bool true) σ R) (
oF (vBin none .eql a2 (.int .u8 104)) fun v3 =>
condW v3 (
oF (vPart false 1 z1.2 10) fun v4 =>
oF (vBin none .geq v4 (.int .i64 0)) fun v5 =>
if true = true then guardG False v5 true (fun J6 =>
oF (vPart false 1 z1.2 10) fun v9 =>
oF (vBin none .lss v9 (.int .i64 2)) fun v10 =>
J6 (lookE [(16,(.loc 4 10)),(17,(.v v9)),(18,(.v v10))]) σ) σ (fun y7 σ8 =>
oF (vPick v5 (y7 18).pv (.bool false)) fun v11 =>
wkR σ v11 σ8 R) else False) (
oF (vBin none .eql a2 (.int .u8 98)) fun v12 =>
condW v12 (
oF (vPart false 1 z1.2 10) fun v13 =>
oF (vBin none .geq v13 (.int .i64 0)) fun v14 =>
if true = true then guardG False v14 true (fun J15 =>
oF (vPart false 1 z1.2 10) fun v18 =>
oF (vBin none .lss v18 (.int .i64 8)) fun v19 =>
J15 (lookE [(26,(.loc 4 10)),(27,(.v v18)),(28,(.v v19))]) σ) σ (fun y16 σ17 =>
oF (vPick v14 (y16 28).pv (.bool false)) fun v20 =>
wkR σ v20 σ17 R) else False) (
oF (vBin none .eql a2 (.int .u8 77)) fun v21 =>
condW v21 (
oF (vPart false 1 z1.2 1) fun v22 =>
oF (vBin none .eql v22 (.int .i64 0)) fun v23 =>
if true = true then guardG False v23 true (fun J24 =>
oF (vPart false 1 z1.2 10) fun v27 =>
oF (vBin none .eql v27 (.int .i64 0)) fun v28 =>
J24 (lookE [(37,(.loc 4 10)),(38,(.v v27)),(39,(.v v28))]) σ) σ (fun y25 σ26 =>
oF (vPick v23 (y25 39).pv (.bool false)) fun v29 =>
if true = true then guardG False v29 false (fun J30 =>
oF (vPart false 1 z1.2 1) fun v33 =>
oF (vBin none .neq v33 (.int .i64 0)) fun v34 =>
J30 (lookE [(42,(.loc 4 1)),(43,(.loc 4 1)),(44,(.v v33)),(45,(.v v34)),(46,(.v v34))]) σ26) σ26 (fun y31 σ32 =>
if true = true then guardG False (y31 46).pv true (fun J35 =>
oF (vPart false 1 z1.2 10) fun v38 =>
oF (vBin none .geq v38 (.int .i64 0)) fun v39 =>
J35 (lookE [(47,(.loc 4 10)),(48,(.v v38)),(49,(.v v39))]) σ32) σ32 (fun y36 σ37 =>
if true = true then guardG False v29 false (fun J40 =>
oF (vPick (y31 46).pv (y36 49).pv (.bool false)) fun v43 =>
J40 (lookE [(50,(.v v43)),(51,(.v v43))]) σ37) σ37 (fun y41 σ42 =>
if true = true then guardG False (y41 51).pv true (fun J44 =>
oF (vPart false 1 z1.2 10) fun v47 =>
oF (vPart false 1 z0.2 0) fun v48 =>
oF (vLen .sl v48 σ42) fun v49 =>
oF (vBin none .lss v47 v49) fun v50 =>
J44 (lookE [(52,(.loc 4 10)),(53,(.v v47)),(54,(.loc 3 0)),(55,(.v v48)),(56,(.v v49)),(57,(.v v50))]) σ42) σ42 (fun y45 σ46 =>
if true = true then guardG False v29 false (fun J51 =>
oF (vPick (y41 51).pv (y45 57).pv (.bool false)) fun v54 =>
J51 (lookE [(58,(.v v54))]) σ46) σ46 (fun y52 σ53 =>
oF (vPick v29 (.bool true) (y52 58).pv) fun v55 =>
wkR σ v55 σ53 R) else False) else False) else False) else False) else False) else False) (
oF (vPart false 1 z1.2 10) fun v56 =>
oF (vBin none .eql v56 (.int .i64 0)) fun v57 =>
wkR σ v57 σ R))))
theorem fn133_eq (W : CallP) (a0 a1 a2 : PV) (σ : St) (R : Res → St → Prop) : bodyC (algP W) Tryz.prog annF 133 [a0,a1,a2] σ R = fn133 Tryz.prog W a0 a1 a2 σ R := by kernel_rfl
def fn134 (Pr : Program) (W : CallP) (a0 a1 a2 a3 a4 a5 : PV) (σ : St) (R : Res → St → Prop) : Prop :=
oF (opC.vBoxAny a0) fun z0 =>
oF (opC.vBoxAny a2) fun z1 =>
oF (vPart false 1 z1.2 11) fun v2 =>
CutW σ (fun J3 =>
oF (vBin none .eql a3 (.int .u8 101)) fun v6 =>
condW v6 (
oF (vBin none .geq v2 (.int .i64 (-1000))) fun v7 =>
if true = true then guardG False v7 true (fun J8 =>
oF (vBin none .leq v2 (.int .i64 1000)) fun v11 =>
J8 (lookE [(22,(.v v2)),(23,(.v v11))]) σ) σ (fun y9 σ10 =>
oF (vPick v7 (y9 23).pv (.bool false)) fun v12 =>
wkR σ v12 σ10 R) else False) (
oF (vBin none .eql a3 (.int .u8 104)) fun v13 =>
condW v13 (
callB W 75 [v2,(.int .i64 2)] σ (fun v14 σ15 =>
wkR σ v14 σ15 R) (pNR R)) (
oF (vBin none .eql a3 (.int .u8 100)) fun v18 =>
condW v18 (
callB W 75 [v2,(.int .i64 3)] σ (fun v19 σ20 =>
wkR σ v19 σ20 R) (pNR R)) (
oF (vBin none .eql a3 (.int .u8 68)) fun v23 =>
condW v23 (
oF (vBin none .geq v2 (.int .i64 1)) fun v24 =>
if true = true then guardG False v24 true (fun J25 =>
oF (vBin none .leq v2 (.int .i64 3)) fun v28 =>
J25 (lookE [(38,(.v v2)),(39,(.v v28))]) σ) σ (fun y26 σ27 =>
oF (vPick v24 (y26 39).pv (.bool false)) fun v29 =>
wkR σ v29 σ27 R) else False) (
oF (vBin none .eql a3 (.int .u8 117)) fun v30 =>
condW v30 (
callB W 75 [v2,(.int .i64 64)] σ (fun v31 σ32 =>
wkR σ v31 σ32 R) (pNR R)) (
oF (vBin none .eql a3 (.int .u8 111)) fun v35 =>
condW v35 (
condW v35 (
callB W 75 [v2,(.int .i64 1000)] σ (fun v36 σ37 =>
wkR σ v36 σ37 R) (pNR R)) (
oF (vBin none .eql a3 (.int .u8 109)) fun v40 =>
condW v40 (
oF (vPart false 1 z0.2 0) fun v41 =>
oF (vLen .sl v41 σ) fun v42 =>
callB W 75 [v2,v42] σ (fun v43 σ44 =>
wkR σ v43 σ44 R) (pNR R)) (
oF (vBin none .eql a3 (.int .u8 116)) fun v47 =>
condW v47 (
oF (vPart false 1 z0.2 7) fun v48 =>
oF (vLen .sl v48 σ) fun v49 =>
callB W 75 [v2,v49] σ (fun v50 σ51 =>
wkR σ v50 σ51 R) (pNR R)) (
oF (vBin none .eql a3 (.int .u8 99)) fun v54 =>
condW v54 (
oF (vPart false 1 z0.2 5) fun v55 =>
oF (vLen .sl v55 σ) fun v56 =>
callB W 75 [v2,v56] σ (fun v57 σ58 =>
wkR σ v57 σ58 R) (pNR R)) (
oF (vBin none .eql a3 (.int .u8 112)) fun v61 =>
condW v61 (
oF (vPart false 1 z0.2 6) fun v62 =>
oF (vLen .sl v62 σ) fun v63 =>
callB W 75 [v2,v63] σ (fun v64 σ65 =>
wkR σ v64 σ65 R) (pNR R)) (
oF (vBin none .eql a3 (.int .u8 120)) fun v68 =>
condW v68 (
oF (vPart false 1 z0.2 8) fun v69 =>
oF (vLen .sl v69 σ) fun v70 =>
callB W 75 [v2,v70] σ (fun v71 σ72 =>
wkR σ v71 σ72 R) (pNR R)) (
oF (vBin none .eql a3 (.int .u8 102)) fun v75 =>
condW v75 (
oF (vBin none .geq v2 (.int .i64 1)) fun v76 =>
if true = true then guardG False v76 true (fun J77 =>
oF (vPart false 1 z0.2 3) fun v80 =>
oF (vLen .sl v80 σ) fun v81 =>
oF (vBin none .lss v2 v81) fun v82 =>
J77 (lookE [(90,(.v v2)),(91,(.loc 6 3)),(92,(.v v80)),(93,(.v v81)),(94,(.v v82))]) σ) σ (fun y78 σ79 =>
oF (vPick v76 (y78 94).pv (.bool false)) fun v83 =>
if true = true then guardG False v83 true (fun J84 =>
oF (vPart false 1 z0.2 3) fun v87 =>
oF (vIndex 9 v87 v2) fun v88 =>
oF (vField 4 v88) fun v89 =>
oF (vLoad false 1 v89 σ79) fun v90 =>
oF (vBin none .eql v90 a1) fun v91 =>
J84 (lookE [(97,(.loc 6 3)),(98,(.v v87)),(99,(.v v2)),(100,(.v v88)),(101,(.v v89)),(102,(.v v90)),(103,(.v a1)),(104,(.v v91))]) σ79) σ79 (fun y85 σ86 =>
oF (vPick v83 (y85 104).pv (.bool false)) fun v92 =>
wkR σ v92 σ86 R) else False) else False) (
oF (vBin none .eql a3 (.int .u8 103)) fun v93 =>
condW v93 (
oF (vBin none .geq v2 (.int .i64 1)) fun v94 =>
if true = true then guardG False v94 true (fun J95 =>
oF (vPart false 1 z0.2 3) fun v98 =>
oF (vIndex 9 v98 a1) fun v99 =>
oF (vField 8 v99) fun v100 =>
oF (vLoad false 1 v100 σ) fun v101 =>
oF (vLen .sl v101 σ) fun v102 =>
oF (vBin none .lss v2 v102) fun v103 =>
J95 (lookE [(111,(.v v2)),(112,(.loc 6 3)),(113,(.v v98)),(114,(.v a1)),(115,(.v v99)),(116,(.v v100)),(117,(.v v101)),(118,(.v v102)),(119,(.v v103))]) σ) σ (fun y96 σ97 =>
oF (vPick v94 (y96 119).pv (.bool false)) fun v104 =>
wkR σ v104 σ97 R) else False) (
oF (vBin none .eql a3 (.int .u8 106)) fun v105 =>
condW v105 (
oF (vPart true 10 z0.2 0) fun v106 =>
callB W 135 [v106,a1,v2] σ (fun v107 σ108 =>
wkR σ v107 σ108 R) (pNR R)) (
oF (vBin none .eql a3 (.int .u8 74)) fun v111 =>
condW v111 (
oF (vPart true 10 z0.2 0) fun v112 =>
oF (vPart true 10 z0.2 0) fun v113 =>
oF (vPart false 1 z1.2 3) fun v114 =>
callB W 125 [v113,a1,v114] σ (fun v115 σ116 =>
callB W 135 [v112,v115,v2] σ116 (fun v117 σ118 =>
wkR σ v117 σ118 R) (pNR R)) (pNR R)) (
oF (vBin none .eql a3 (.int .u8 113)) fun v123 =>
condW v123 (
callB W 75 [v2,a4] σ (fun v124 σ125 =>
wkR σ v124 σ125 R) (pNR R)) (
oF (vBin none .eql a3 (.int .u8 105)) fun v128 =>
condW v128 (
callB W 75 [v2,a5] σ (fun v129 σ130 =>
wkR σ v129 σ130 R) (pNR R)) (
packW [(13,v2)] fun x133 => J3 x133 σ))))))))))))) (
oF (vBin none .eql a3 (.int .u8 107)) fun v134 =>
condW v134 (
callB W 75 [v2,(.int .i64 1000)] σ (fun v135 σ136 =>
wkR σ v135 σ136 R) (pNR R)) (
oF (vBin none .eql a3 (.int .u8 109)) fun v139 =>
condW v139 (
oF (vPart false 1 z0.2 0) fun v140 =>
oF (vLen .sl v140 σ) fun v141 =>
callB W 75 [v2,v141] σ (fun v142 σ143 =>
wkR σ v142 σ143 R) (pNR R)) (
oF (vBin none .eql a3 (.int .u8 116)) fun v146 =>
condW v146 (
oF (vPart false 1 z0.2 7) fun v147 =>
oF (vLen .sl v147 σ) fun v148 =>
callB W 75 [v2,v148] σ (fun v149 σ150 =>
wkR σ v149 σ150 R) (pNR R)) (
oF (vBin none .eql a3 (.int .u8 99)) fun v153 =>
condW v153 (
oF (vPart false 1 z0.2 5) fun v154 =>
oF (vLen .sl v154 σ) fun v155 =>
callB W 75 [v2,v155] σ (fun v156 σ157 =>
wkR σ v156 σ157 R) (pNR R)) (
oF (vBin none .eql a3 (.int .u8 112)) fun v160 =>
condW v160 (
oF (vPart false 1 z0.2 6) fun v161 =>
oF (vLen .sl v161 σ) fun v162 =>
callB W 75 [v2,v162] σ (fun v163 σ164 =>
wkR σ v163 σ164 R) (pNR R)) (
oF (vBin none .eql a3 (.int .u8 120)) fun v167 =>
condW v167 (
oF (vPart false 1 z0.2 8) fun v168 =>
oF (vLen .sl v168 σ) fun v169 =>
callB W 75 [v2,v169] σ (fun v170 σ171 =>
wkR σ v170 σ171 R) (pNR R)) (
oF (vBin none .eql a3 (.int .u8 102)) fun v174 =>
condW v174 (
oF (vBin none .geq v2 (.int .i64 1)) fun v175 =>
if true = true then guardG False v175 true (fun J176 =>
oF (vPart false 1 z0.2 3) fun v179 =>
oF (vLen .sl v179 σ) fun v180 =>
oF (vBin none .lss v2 v180) fun v181 =>
J176 (lookE [(90,(.v v2)),(91,(.loc 6 3)),(92,(.v v179)),(93,(.v v180)),(94,(.v v181))]) σ) σ (fun y177 σ178 =>
oF (vPick v175 (y177 94).pv (.bool false)) fun v182 =>
if true = true then guardG False v182 true (fun J183 =>
oF (vPart false 1 z0.2 3) fun v186 =>
oF (vIndex 9 v186 v2) fun v187 =>
oF (vField 4 v187) fun v188 =>
oF (vLoad false 1 v188 σ178) fun v189 =>
oF (vBin none .eql v189 a1) fun v190 =>
J183 (lookE [(97,(.loc 6 3)),(98,(.v v186)),(99,(.v v2)),(100,(.v v187)),(101,(.v v188)),(102,(.v v189)),(103,(.v a1)),(104,(.v v190))]) σ178) σ178 (fun y184 σ185 =>
oF (vPick v182 (y184 104).pv (.bool false)) fun v191 =>
wkR σ v191 σ185 R) else False) else False) (
oF (vBin none .eql a3 (.int .u8 103)) fun v192 =>
condW v192 (
oF (vBin none .geq v2 (.int .i64 1)) fun v193 =>
if true = true then guardG False v193 true (fun J194 =>
oF (vPart false 1 z0.2 3) fun v197 =>
oF (vIndex 9 v197 a1) fun v198 =>
oF (vField 8 v198) fun v199 =>
oF (vLoad false 1 v199 σ) fun v200 =>
oF (vLen .sl v200 σ) fun v201 =>
oF (vBin none .lss v2 v201) fun v202 =>
J194 (lookE [(111,(.v v2)),(112,(.loc 6 3)),(113,(.v v197)),(114,(.v a1)),(115,(.v v198)),(116,(.v v199)),(117,(.v v200)),(118,(.v v201)),(119,(.v v202))]) σ) σ (fun y195 σ196 =>
oF (vPick v193 (y195 119).pv (.bool false)) fun v203 =>
wkR σ v203 σ196 R) else False) (
oF (vBin none .eql a3 (.int .u8 106)) fun v204 =>
condW v204 (
oF (vPart true 10 z0.2 0) fun v205 =>
callB W 135 [v205,a1,v2] σ (fun v206 σ207 =>
wkR σ v206 σ207 R) (pNR R)) (
oF (vBin none .eql a3 (.int .u8 74)) fun v210 =>
condW v210 (
oF (vPart true 10 z0.2 0) fun v211 =>
oF (vPart true 10 z0.2 0) fun v212 =>
oF (vPart false 1 z1.2 3) fun v213 =>
callB W 125 [v212,a1,v213] σ (fun v214 σ215 =>
callB W 135 [v211,v214,v2] σ215 (fun v216 σ217 =>
wkR σ v216 σ217 R) (pNR R)) (pNR R)) (
oF (vBin none .eql a3 (.int .u8 113)) fun v222 =>
condW v222 (
callB W 75 [v2,a4] σ (fun v223 σ224 =>
wkR σ v223 σ224 R) (pNR R)) (
oF (vBin none .eql a3 (.int .u8 105)) fun v227 =>
condW v227 (
callB W 75 [v2,a5] σ (fun v228 σ229 =>
wkR σ v228 σ229 R) (pNR R)) (
packW [(13,v2)] fun x232 => J3 x232 σ))))))))))))))))))) (fun x4 σ5 =>
oF (vBin none .eql (x4 13) (.int .i64 0)) fun v233 =>
wkR σ v233 σ5 R)
theorem fn134_eq (W : CallP) (a0 a1 a2 a3 a4 a5 : PV) (σ : St) (R : Res → St → Prop) : bodyC (algP W) Tryz.prog annF 134 [a0,a1,a2,a3,a4,a5] σ R = fn134 Tryz.prog W a0 a1 a2 a3 a4 a5 σ R := by kernel_rfl
def fn135 (Pr : Program) (W : CallP) (a0 a1 a2 : PV) (σ : St) (R : Res → St → Prop) : Prop :=
oF (opC.vBoxAny a0) fun z0 =>
oF (vBin none .geq a1 (.int .i64 0)) fun v1 =>
if true = true then guardG False v1 true (fun J2 =>
oF (vPart false 1 z0.2 3) fun v5 =>
oF (vIndex 9 v5 a1) fun v6 =>
oF (vField 2 v6) fun v7 =>
oF (vLoad false 1 v7 σ) fun v8 =>
oF (vBin none .geq a2 v8) fun v9 =>
J2 (lookE [(10,(.v a2)),(11,(.loc 3 3)),(12,(.v v5)),(13,(.v a1)),(14,(.v v6)),(15,(.v v7)),(16,(.v v8)),(17,(.v v9))]) σ) σ (fun y3 σ4 =>
oF (vPick v1 (y3 17).pv (.bool false)) fun v10 =>
if true = true then guardG False v10 true (fun J11 =>
oF (vPart false 1 z0.2 3) fun v14 =>
oF (vIndex 9 v14 a1) fun v15 =>
oF (vField 3 v15) fun v16 =>
oF (vLoad false 1 v16 σ4) fun v17 =>
oF (vBin none .lss a2 v17) fun v18 =>
J11 (lookE [(20,(.v a2)),(21,(.loc 3 3)),(22,(.v v14)),(23,(.v a1)),(24,(.v v15)),(25,(.v v16)),(26,(.v v17)),(27,(.v v18))]) σ4) σ4 (fun y12 σ13 =>
oF (vPick v10 (y12 27).pv (.bool false)) fun v19 =>
wkR σ v19 σ13 R) else False) else False
theorem fn135_eq (W : CallP) (a0 a1 a2 : PV) (σ : St) (R : Res → St → Prop) : bodyC (algP W) Tryz.prog annF 135 [a0,a1,a2] σ R = fn135 Tryz.prog W a0 a1 a2 σ R := by kernel_rfl
def fn137 (Pr : Program) (W : CallP) (a0 a1 : PV) (σ : St) (R : Res → St → Prop) : Prop :=
oF (opC.vBoxAny a0) fun z0 =>
oF (vLoad false 1 a1 σ) fun v1 =>
oF (vPart false 1 z0.2 2) fun v2 =>
oF (vBin none .geq v1 v2) fun v3 =>
if true = true then guardG False v3 true (fun J4 =>
oF (vLoad false 1 a1 σ) fun v7 =>
oF (vPart false 1 z0.2 3) fun v8 =>
oF (vBin none .lss v7 v8) fun v9 =>
J4 (lookE [(9,(.v v7)),(10,(.loc 2 3)),(11,(.v v8)),(12,(.v v9))]) σ) σ (fun y5 σ6 =>
oF (vPick v3 (y5 12).pv (.bool false)) fun v10 =>
wkR σ v10 σ6 R) else False
theorem fn137_eq (W : CallP) (a0 a1 : PV) (σ : St) (R : Res → St → Prop) : bodyC (algP W) Tryz.prog annF 137 [a0,a1] σ R = fn137 Tryz.prog W a0 a1 σ R := by kernel_rfl
def fn225 (Pr : Program) (W : CallP) (a0 : PV) (σ : St) (R : Res → St → Prop) : Prop :=
oF (vLen .sl a0 σ) fun v0 =>
packW [(0,a0),(3,(.int .i64 0)),(9,a0),(10,v0),(11,(.int .i64 0))] fun x29 =>
Lfp σ (fun Φ1 x2 σ3 =>
oF (vBin none .lss (x2 11) (x2 10)) fun v4 =>
condW v4 (
oF (vIndex 1 (x2 9) (x2 11)) fun v5 =>
oF (vLoad false 1 v5 σ3) fun v6 =>
oF (vLen .sl v6 σ3) fun v7 =>
oF (vBin none .add (x2 3) v7) fun v8 =>
oF (vBin none .lss v8 (.int .i64 0)) fun v9 =>
condW v9 (
panW (.iface 9 (.str [108,101,110,32,111,117,116,32,111,102,32,114,97,110,103,101])) fun v10 => R (.pan v10) σ3) (
oF (vBin none .add (x2 11) (.int .i64 1)) fun v11 =>
packW [(0,(x2 0)),(3,v8),(9,(x2 9)),(10,(x2 10)),(11,v11)] fun x12 => Φ1 x12 σ3)) (
callB W 276 [(.list .nil []),(x2 3)] σ3 (fun v13 σ14 =>
oF (vLen .sl (x2 0) σ14) fun v15 =>
packW [(6,v13),(25,(x2 0)),(26,v15),(27,(.int .i64 0))] fun x26 =>
Lfp σ (fun Φ16 x17 σ18 =>
oF (vBin none .lss (x17 27) (x17 26)) fun v19 =>
condW v19 (
oF (vIndex 1 (x17 25) (x17 27)) fun v20 =>
oF (vLoad false 1 v20 σ18) fun v21 =>
bindS (vAppend 5 40 (x17 6) v21 σ18) fun v22 σ23 =>
oF (vBin none .add (x17 27) (.int .i64 1)) fun v24 =>
packW [(6,v22),(25,(x17 25)),(26,(x17 26)),(27,v24)] fun x25 => Φ16 x25 σ23) (
wkR σ (x17 6) σ18 R)) x26 σ14) (pNR R))) x29 σ
theorem fn225_eq (W : CallP) (a0 : PV) (σ : St) (R : Res → St → Prop) : bodyC (algP W) Tryz.prog annF 225 [a0] σ R = fn225 Tryz.prog W a0 σ R := by kernel_rfl
def fn226 (Pr : Program) (W : CallP) (a0 a1 : PV) (σ : St) (R : Res → St → Prop) : Prop :=
oF (vLen .sl a0 σ) fun v0 =>
oF (vLen .sl a1 σ) fun v1 =>
oF (vBin none .neq v0 v1) fun v2 =>
condW v2 (
wkR σ (.bool false) σ R) (
oF (vLen .sl a0 σ) fun v3 =>
packW [(0,a0),(1,a1),(12,v3),(13,(.int .i64 0))] fun x15 =>
Lfp σ (fun Φ4 x5 σ6 =>
oF (vBin none .lss (x5 13) (x5 12)) fun v7 =>
condW v7 (
oF (vIndex 5 (x5 0) (x5 13)) fun v8 =>
oF (vLoad true 5 v8 σ6) fun v9 =>
oF (vIndex 5 (x5 1) (x5 13)) fun v10 =>
oF (vLoad true 5 v10 σ6) fun v11 =>
oF (vBin (some (.st [.int,.int,.int,.int,.bool])) .neq v9 v11) fun v12 =>
condW v12 (
wkR σ (.bool false) σ6 R) (
oF (vBin none .add (x5 13) (.int .i64 1)) fun v13 =>
packW [(0,(x5 0)),(1,(x5 1)),(12,(x5 12)),(13,v13)] fun x14 => Φ4 x14 σ6)) (
wkR σ (.bool true) σ6 R)) x15 σ)
theorem fn226_eq (W : CallP) (a0 a1 : PV) (σ : St) (R : Res → St → Prop) : bodyC (algP W) Tryz.prog annF 226 [a0,a1] σ R = fn226 Tryz.prog W a0 a1 σ R := by kernel_rfl
def fn227 (Pr : Program) (W : CallP) (a0 a1 a2 : PV) (σ : St) (R : Res → St → Prop) : Prop :=
oF (opC.vBoxAny a0) fun z0 =>
oF (vBin none .lss a2 (.int .i64 0)) fun v1 =>
condW v1 (
wkR σ (.tuple [(.int .i64 0),(.bool false)]) σ R) (
CutW σ (fun J2 =>
packW [(1,a1),(2,a2),(3,z0.2)] fun x17 =>
Lfp σ (fun Φ5 x6 σ7 =>
oF (vBin none .gtr (x6 2) (.int .i64 0)) fun v8 =>
condW v8 (
oF (vPart false 1 (x6 3) 3) fun v9 =>
oF (vIndex 9 v9 (x6 1)) fun v10 =>
oF (vField 4 v10) fun v11 =>
oF (vLoad false 1 v11 σ7) fun v12 =>
oF (vBin none .lss v12 (.int .i64 0)) fun v13 =>
condW v13 (
wkR σ (.tuple [(.int .i64 0),(.bool false)]) σ7 R) (
oF (vBin none .sub (x6 2) (.int .i64 1)) fun v14 =>
packW [(1,v12),(2,v14),(3,(x6 3))] fun x15 => Φ5 x15 σ7)) (
packW [(1,(x6 1))] fun x16 => J2 x16 σ7)) x17 σ) (fun x3 σ4 =>
wkR σ (.tuple [(x3 1),(.bool true)]) σ4 R))
theorem fn227_eq (W : CallP) (a0 a1 a2 : PV) (σ : St) (R : Res → St → Prop) : bodyC (algP W) Tryz.prog annF 227 [a0,a1,a2] σ R = fn227 Tryz.prog W a0 a1 a2 σ R := by kernel_rfl
def fn228 (Pr : Program) (W : CallP) (a0 a1 a2 : PV) (σ : St) (R : Res → St → Prop) : Prop :=
oF (opC.vBoxAny a0) fun z0 =>
CutW σ (fun J1 =>
packW [(1,a1),(2,a2),(3,z0.2)] fun x30 =>
Lfp σ (fun Φ4 x5 σ6 =>
oF (vBin none .gtr (x5 2) (.int .i64 0)) fun v7 =>
condW v7 (
oF (vPart false 1 (x5 3) 3) fun v8 =>
oF (vIndex 9 v8 (x5 1)) fun v9 =>
oF (vLoad true 9 v9 σ6) fun v10 =>
oF (vPut 9 (.agg [(.int .i64 0),(.int .i64 0),(.int .i64 0),(.int .i64 0),(.int .i64 0),(.int .i64 0),(.int .i64 0),(.int .i64 0),(.list .nil [])]) 0 v10) fun z11 =>
oF (vPart false 1 z11 6) fun v12 =>
oF (vBin none .lss v12 (.int .i64 1)) fun v13 =>
if true = true then guardG False v13 false (fun J14 =>
oF (vPart false 1 z11 6) fun v17 =>
oF (vBin none .gtr v17 (x5 2)) fun v18 =>
J14 (lookE [(23,(.loc 8 6)),(24,(.v v17)),(25,(.v (x5 2))),(26,(.v v18))]) σ6) σ6 (fun y15 σ16 =>
oF (vPick v13 (.bool true) (y15 26).pv) fun v19 =>
if true = true then guardG False v19 false (fun J20 =>
oF (vPart false 1 z11 4) fun v23 =>
oF (vBin none .lss v23 (.int .i64 0)) fun v24 =>
J20 (lookE [(29,(.loc 8 4)),(30,(.v v23)),(31,(.v v24))]) σ16) σ16 (fun y21 σ22 =>
oF (vPick v19 (.bool true) (y21 31).pv) fun v25 =>
condW v25 (
wkR σ (.tuple [(.int .i64 0),(.bool false)]) σ22 R) (
oF (vPart false 1 z11 4) fun v26 =>
oF (vBin none .sub (x5 2) (.int .i64 1)) fun v27 =>
packW [(1,v26),(2,v27),(3,(x5 3))] fun x28 => Φ4 x28 σ22)) else False) else False) (
packW [(1,(x5 1)),(2,(x5 2))] fun x29 => J1 x29 σ6)) x30 σ) (fun x2 σ3 =>
oF (vBin none .eql (x2 2) (.int .i64 0)) fun v31 =>
wkR σ (.tuple [(x2 1),v31]) σ3 R)
theorem fn228_eq (W : CallP) (a0 a1 a2 : PV) (σ : St) (R : Res → St → Prop) : bodyC (algP W) Tryz.prog annF 228 [a0,a1,a2] σ R = fn228 Tryz.prog W a0 a1 a2 σ R := by kernel_rfl
def fn229 (Pr : Program) (W : CallP) (a0 a1 : PV) (σ : St) (R : Res → St → Prop) : Prop :=
oF (vField 2 a1) fun v0 =>
oF (vLoad false 1 v0 σ) fun v1 =>
oF (vBin none .lss a0 v1) fun v2 =>
if true = true then guardG False v2 false (fun J3 =>
oF (vField 3 a1) fun v6 =>
oF (vLoad false 1 v6 σ) fun v7 =>
oF (vBin none .geq a0 v7) fun v8 =>
J3 (lookE [(9,(.v a0)),(10,(.v v6)),(11,(.v v7)),(12,(.v v8))]) σ) σ (fun y4 σ5 =>
oF (vPick v2 (.bool true) (y4 12).pv) fun v9 =>
wkR σ v9 σ5 R) else False
theorem fn229_eq (W : CallP) (a0 a1 : PV) (σ : St) (R : Res → St → Prop) : bodyC (algP W) Tryz.prog annF 229 [a0,a1] σ R = fn229 Tryz.prog W a0 a1 σ R := by kernel_rfl
def fn230 (Pr : Program) (W : CallP) (a0 : PV) (σ : St) (R : Res → St → Prop) : Prop :=
oF (vBin none .lss a0 (.int .i64 (-1))) fun v0 =>
if true = true then guardG False v0 false (fun J1 =>
oF (vBin none .geq a0 (.int .i64 64)) fun v4 =>
J1 (lookE [(6,(.v a0)),(7,(.v v4))]) σ) σ (fun y2 σ3 =>
oF (vPick v0 (.bool true) (y2 7).pv) fun v5 =>
wkR σ v5 σ3 R) else False
theorem fn230_eq (W : CallP) (a0 : PV) (σ : St) (R : Res → St → Prop) : bodyC (algP W) Tryz.prog annF 230 [a0] σ R = fn230 Tryz.prog W a0 σ R := by kernel_rfl
def fn234 (Pr : Program) (W : CallP) (a0 a1 a2 : PV) (σ : St) (R : Res → St → Prop) : Prop :=
oF (opC.vBoxAny a0) fun z0 =>
CutW σ (fun J1 =>
packW [(1,a1),(7,a2),(3,z0.2)] fun x29 =>
Lfp σ (fun Φ4 x5 σ6 =>
oF (vBin none .gtr (x5 7) (.int .i64 0)) fun v7 =>
condW v7 (
oF (vPart false 1 (x5 3) 3) fun v8 =>
oF (vIndex 9 v8 (x5 1)) fun v9 =>
oF (vField 6 v9) fun v10 =>
oF (vLoad false 1 v10 σ6) fun v11 =>
oF (vBin none .lss v11 (.int .i64 1)) fun v12 =>
if true = true then guardG False v12 false (fun J13 =>
oF (vPart false 1 (x5 3) 3) fun v16 =>
oF (vIndex 9 v16 (x5 1)) fun v17 =>
oF (vField 6 v17) fun v18 =>
oF (vLoad false 1 v18 σ6) fun v19 =>
oF (vBin none .gtr v19 (x5 7)) fun v20 =>
J13 (lookE [(21,(.loc 3 3)),(22,(.v v16)),(23,(.v (x5 1))),(24,(.v v17)),(25,(.v v18)),(26,(.v v19)),(27,(.v (x5 7))),(28,(.v v20))]) σ6) σ6 (fun y14 σ15 =>
oF (vPick v12 (.bool true) (y14 28).pv) fun v21 =>
condW v21 (
wkR σ (.bool false) σ15 R) (
oF (vPart false 1 (x5 3) 3) fun v22 =>
oF (vIndex 9 v22 (x5 1)) fun v23 =>
oF (vField 4 v23) fun v24 =>
oF (vLoad false 1 v24 σ15) fun v25 =>
oF (vBin none .sub (x5 7) (.int .i64 1)) fun v26 =>
packW [(1,v25),(7,v26),(3,(x5 3))] fun x27 => Φ4 x27 σ15)) else False) (
packW [] fun x28 => J1 x28 σ6)) x29 σ) (fun x2 σ3 =>
wkR σ (.bool true) σ3 R)
theorem fn234_eq (W : CallP) (a0 a1 a2 : PV) (σ : St) (R : Res → St → Prop) : bodyC (algP W) Tryz.prog annF 234 [a0,a1,a2] σ R = fn234 Tryz.prog W a0 a1 a2 σ R := by kernel_rfl
def fn276 (Pr : Program) (W : CallP) (a0 a1 : PV) (σ : St) (R : Res → St → Prop) : Prop :=
oF (vBin none .lss a1 (.int .i64 0)) fun v0 =>
condW v0 (
panW (.iface 9 (.str [99,97,110,110,111,116,32,98,101,32,110,101,103,97,116,105,118,101])) fun v1 => R (.pan v1) σ) (
oF (vCap a0) fun v2 =>
oF (vLen .sl a0 σ) fun v3 =>
oF (vBin none .sub v2 v3) fun v4 =>
oF (vBin none .sub a1 v4) fun v5 =>
oF (vBin none .gtr v5 (.int .i64 0)) fun v6 =>
condW v6 (
oF (vCap a0) fun v7 =>
oF (vSubSl 5 a0 none (some v7)) fun v8 =>
bindS (vAppendMk 5 40 (.agg [(.int .i64 0),(.int .i64 0),(.int .i64 0),(.int .i64 0),(.bool false)]) v8 v5 σ) fun v9 σ10 =>
oF (vLen .sl a0 σ10) fun v11 =>
oF (vSubSl 5 v9 none (some v11)) fun v12 =>
wkR σ v12 σ10 R) (
wkR σ a0 σ R))
theorem fn276_eq (W : CallP) (a0 a1 : PV) (σ : St) (R : Res → St → Prop) : bodyC (algP W) Tryz.prog annF 276 [a0,a1] σ R = fn276 Tryz.prog W a0 a1 σ R := by kernel_rfl
end Go.Proofs.YtgghfcchanilpaaGreatDoor
