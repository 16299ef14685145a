import Derived.KernelRfl
import Derived.Test.YtgghfcchanilpaaGreatDoorAnn
import Derived.Test.YtgghfcchanilpaaGreatDoorProg
set_option linter.unusedVariables false
set_option linter.unusedSimpArgs false
namespace Go.Proofs.YtgghfcchanilpaaGreatDoor
open Go Go.Abs
def fn23 (Pr : Program) (W : CallP) (a0 : PV) (σ : St) (R : Res → St → Prop) : Prop :=
oF (opC.vBoxAny a0) fun z0 =>
oF (vPart false 1 z0.2 4) fun v1 =>
oF (vLen .sl v1 σ) fun v2 =>
oF (vBin none .gtr v2 (.int .i64 200)) fun v3 =>
if true = true then guardG False v3 false (fun J4 =>
oF (vPart false 1 z0.2 0) fun v7 =>
oF (vLen .sl v7 σ) fun v8 =>
oF (vBin none .gtr v8 (.int .i64 40)) fun v9 =>
J4 (lookE [(13,(.loc 1 0)),(14,(.v v7)),(15,(.v v8)),(16,(.v v9))]) σ) σ (fun y5 σ6 =>
oF (vPick v3 (.bool true) (y5 16).pv) fun v10 =>
if true = true then guardG False v10 false (fun J11 =>
oF (vPart false 1 z0.2 2) fun v14 =>
oF (vLen .sl v14 σ6) fun v15 =>
oF (vBin none .gtr v15 (.int .i64 20)) fun v16 =>
J11 (lookE [(19,(.loc 1 2)),(20,(.v v14)),(21,(.v v15)),(22,(.v v16))]) σ6) σ6 (fun y12 σ13 =>
oF (vPick v10 (.bool true) (y12 22).pv) fun v17 =>
if true = true then guardG False v17 false (fun J18 =>
oF (vPart false 1 z0.2 3) fun v21 =>
oF (vLen .sl v21 σ13) fun v22 =>
oF (vBin none .gtr v22 (.int .i64 5)) fun v23 =>
J18 (lookE [(25,(.loc 1 3)),(26,(.v v21)),(27,(.v v22)),(28,(.v v23))]) σ13) σ13 (fun y19 σ20 =>
oF (vPick v17 (.bool true) (y19 28).pv) fun v24 =>
if true = true then guardG False v24 false (fun J25 =>
oF (vPart false 1 z0.2 7) fun v28 =>
oF (vLen .sl v28 σ20) fun v29 =>
oF (vBin none .gtr v29 (.int .i64 20)) fun v30 =>
J25 (lookE [(31,(.loc 1 7)),(32,(.v v28)),(33,(.v v29)),(34,(.v v30))]) σ20) σ20 (fun y26 σ27 =>
oF (vPick v24 (.bool true) (y26 34).pv) fun v31 =>
if true = true then guardG False v31 false (fun J32 =>
oF (vPart false 1 z0.2 8) fun v35 =>
oF (vLen .sl v35 σ27) fun v36 =>
oF (vBin none .gtr v36 (.int .i64 20)) fun v37 =>
J32 (lookE [(37,(.loc 1 8)),(38,(.v v35)),(39,(.v v36)),(40,(.v v37))]) σ27) σ27 (fun y33 σ34 =>
oF (vPick v31 (.bool true) (y33 40).pv) fun v38 =>
if true = true then guardG False v38 false (fun J39 =>
oF (vPart false 1 z0.2 9) fun v42 =>
oF (vLen .sl v42 σ34) fun v43 =>
oF (vBin none .gtr v43 (.int .i64 200)) fun v44 =>
J39 (lookE [(43,(.loc 1 9)),(44,(.v v42)),(45,(.v v43)),(46,(.v v44))]) σ34) σ34 (fun y40 σ41 =>
oF (vPick v38 (.bool true) (y40 46).pv) fun v45 =>
if true = true then guardG False v45 false (fun J46 =>
oF (vPart false 1 z0.2 1) fun v49 =>
callB W 55 [v49] σ41 (fun v50 σ51 =>
oF (vUn .not v50) fun v52 =>
J46 (lookE [(49,(.loc 1 1)),(50,(.v v49)),(51,(.v v50)),(52,(.v v52))]) σ51) (pNR R)) σ41 (fun y47 σ48 =>
oF (vPick v45 (.bool true) (y47 52).pv) fun v55 =>
if true = true then guardG False v55 false (fun J56 =>
oF (vPart false 1 z0.2 5) fun v59 =>
callB W 55 [v59] σ48 (fun v60 σ61 =>
oF (vUn .not v60) fun v62 =>
J56 (lookE [(55,(.loc 1 5)),(56,(.v v59)),(57,(.v v60)),(58,(.v v62))]) σ61) (pNR R)) σ48 (fun y57 σ58 =>
oF (vPick v55 (.bool true) (y57 58).pv) fun v65 =>
if true = true then guardG False v65 false (fun J66 =>
oF (vPart false 1 z0.2 6) fun v69 =>
callB W 55 [v69] σ58 (fun v70 σ71 =>
oF (vUn .not v70) fun v72 =>
J66 (lookE [(61,(.loc 1 6)),(62,(.v v69)),(63,(.v v70)),(64,(.v v72))]) σ71) (pNR R)) σ58 (fun y67 σ68 =>
oF (vPick v65 (.bool true) (y67 64).pv) fun v75 =>
condW v75 (
wkR σ (.bool false) σ68 R) (
CutW σ (fun J76 =>
packW [(3,(.bool true)),(4,(.int .i64 0)),(1,z0.2)] fun x98 =>
Lfp σ (fun Φ79 x80 σ81 =>
oF (vPart false 1 (x80 1) 0) fun v82 =>
oF (vLen .sl v82 σ81) fun v83 =>
oF (vBin none .lss (x80 4) v83) fun v84 =>
condW v84 (
if true = true then guardG False (x80 3) true (fun J85 =>
oF (vPart false 1 (x80 1) 0) fun v88 =>
oF (vIndex 1 v88 (x80 4)) fun v89 =>
oF (vField 0 v89) fun v90 =>
oF (vLoad false 1 v90 σ81) fun v91 =>
oF (vLen .sl v91 σ81) fun v92 =>
oF (vBin none .leq v92 (.int .i64 60)) fun v93 =>
J85 (lookE [(75,(.loc 1 0)),(76,(.v v88)),(77,(.v (x80 4))),(78,(.v v89)),(79,(.v v90)),(80,(.v v91)),(81,(.v v92)),(82,(.v v93))]) σ81) σ81 (fun y86 σ87 =>
oF (vPick (x80 3) (y86 82).pv (.bool false)) fun v94 =>
oF (vBin none .add (x80 4) (.int .i64 1)) fun v95 =>
packW [(3,v94),(4,v95),(1,(x80 1))] fun x96 => Φ79 x96 σ87) else False) (
packW [(3,(x80 3)),(1,(x80 1))] fun x97 => J76 x97 σ81)) x98 σ68) (fun x77 σ78 =>
CutW σ (fun J99 =>
packW [(3,(x77 3)),(5,(.int .i64 0)),(1,(x77 1))] fun x121 =>
Lfp σ (fun Φ102 x103 σ104 =>
oF (vPart false 1 (x103 1) 3) fun v105 =>
oF (vLen .sl v105 σ104) fun v106 =>
oF (vBin none .lss (x103 5) v106) fun v107 =>
condW v107 (
if true = true then guardG False (x103 3) true (fun J108 =>
oF (vPart false 1 (x103 1) 3) fun v111 =>
oF (vIndex 9 v111 (x103 5)) fun v112 =>
oF (vField 8 v112) fun v113 =>
oF (vLoad false 1 v113 σ104) fun v114 =>
oF (vLen .sl v114 σ104) fun v115 =>
oF (vBin none .leq v115 (.int .i64 20)) fun v116 =>
J108 (lookE [(93,(.loc 1 3)),(94,(.v v111)),(95,(.v (x103 5))),(96,(.v v112)),(97,(.v v113)),(98,(.v v114)),(99,(.v v115)),(100,(.v v116))]) σ104) σ104 (fun y109 σ110 =>
oF (vPick (x103 3) (y109 100).pv (.bool false)) fun v117 =>
oF (vBin none .add (x103 5) (.int .i64 1)) fun v118 =>
packW [(3,v117),(5,v118),(1,(x103 1))] fun x119 => Φ102 x119 σ110) else False) (
packW [(3,(x103 3)),(1,(x103 1))] fun x120 => J99 x120 σ104)) x121 σ78) (fun x100 σ101 =>
CutW σ (fun J122 =>
packW [(3,(x100 3)),(6,(.int .i64 0)),(1,(x100 1))] fun x143 =>
Lfp σ (fun Φ125 x126 σ127 =>
oF (vPart false 1 (x126 1) 7) fun v128 =>
oF (vLen .sl v128 σ127) fun v129 =>
oF (vBin none .lss (x126 6) v129) fun v130 =>
condW v130 (
if true = true then guardG False (x126 3) true (fun J131 =>
oF (vPart false 1 (x126 1) 7) fun v134 =>
oF (vIndex 1 v134 (x126 6)) fun v135 =>
oF (vLoad false 1 v135 σ127) fun v136 =>
oF (vLen .str v136 σ127) fun v137 =>
oF (vBin none .leq v137 (.int .i64 100)) fun v138 =>
J131 (lookE [(111,(.loc 1 7)),(112,(.v v134)),(113,(.v (x126 6))),(114,(.v v135)),(115,(.v v136)),(116,(.v v137)),(117,(.v v138))]) σ127) σ127 (fun y132 σ133 =>
oF (vPick (x126 3) (y132 117).pv (.bool false)) fun v139 =>
oF (vBin none .add (x126 6) (.int .i64 1)) fun v140 =>
packW [(3,v139),(6,v140),(1,(x126 1))] fun x141 => Φ125 x141 σ133) else False) (
packW [(3,(x126 3)),(1,(x126 1))] fun x142 => J122 x142 σ127)) x143 σ101) (fun x123 σ124 =>
CutW σ (fun J144 =>
packW [(3,(x123 3)),(7,(.int .i64 0)),(1,(x123 1))] fun x166 =>
Lfp σ (fun Φ147 x148 σ149 =>
oF (vPart false 1 (x148 1) 8) fun v150 =>
oF (vLen .sl v150 σ149) fun v151 =>
oF (vBin none .lss (x148 7) v151) fun v152 =>
condW v152 (
if true = true then guardG False (x148 3) true (fun J153 =>
oF (vPart false 1 (x148 1) 8) fun v156 =>
oF (vIndex 3 v156 (x148 7)) fun v157 =>
oF (vField 0 v157) fun v158 =>
oF (vLoad false 1 v158 σ149) fun v159 =>
oF (vLen .str v159 σ149) fun v160 =>
oF (vBin none .leq v160 (.int .i64 100)) fun v161 =>
J153 (lookE [(128,(.loc 1 8)),(129,(.v v156)),(130,(.v (x148 7))),(131,(.v v157)),(132,(.v v158)),(133,(.v v159)),(134,(.v v160)),(135,(.v v161))]) σ149) σ149 (fun y154 σ155 =>
oF (vPick (x148 3) (y154 135).pv (.bool false)) fun v162 =>
oF (vBin none .add (x148 7) (.int .i64 1)) fun v163 =>
packW [(3,v162),(7,v163),(1,(x148 1))] fun x164 => Φ147 x164 σ155) else False) (
packW [(3,(x148 3))] fun x165 => J144 x165 σ149)) x166 σ124) (fun x145 σ146 =>
wkR σ (x145 3) σ146 R)))))) else False) else False) else False) else False) else False) else False) else False) else False) else False
theorem fn23_eq (W : CallP) (a0 : PV) (σ : St) (R : Res → St → Prop) : bodyC (algP W) Tryz.prog annF 23 [a0] σ R = fn23 Tryz.prog W a0 σ R := by kernel_rfl
def fn55 (Pr : Program) (W : CallP) (a0 : PV) (σ : St) (R : Res → St → Prop) : Prop :=
CutW σ (fun J0 =>
packW [(0,a0),(3,(.int .i64 0))] fun x15 =>
Lfp σ (fun Φ3 x4 σ5 =>
oF (vLen .sl (x4 0) σ5) fun v6 =>
oF (vBin none .lss (x4 3) v6) fun v7 =>
condW v7 (
oF (vIndex 1 (x4 0) (x4 3)) fun v8 =>
oF (vLoad false 1 v8 σ5) fun v9 =>
oF (vLen .sl v9 σ5) fun v10 =>
oF (vBin none .gtr v10 (.int .i64 20)) fun v11 =>
condW v11 (
wkR σ (.bool false) σ5 R) (
oF (vBin none .add (x4 3) (.int .i64 1)) fun v12 =>
packW [(0,(x4 0)),(3,v12)] fun x13 => Φ3 x13 σ5)) (
packW [(0,(x4 0))] fun x14 => J0 x14 σ5)) x15 σ) (fun x1 σ2 =>
oF (vLen .sl (x1 0) σ2) fun v16 =>
oF (vBin none .leq v16 (.int .i64 20)) fun v17 =>
wkR σ v17 σ2 R)
theorem fn55_eq (W : CallP) (a0 : PV) (σ : St) (R : Res → St → Prop) : bodyC (algP W) Tryz.prog annF 55 [a0] σ R = fn55 Tryz.prog W a0 σ R := by kernel_rfl
def fn24 (Pr : Program) (W : CallP) (a0 : PV) (σ : St) (R : Res → St → Prop) : Prop :=
oF (opC.vBoxAny a0) fun z0 =>
oF (vPart true 10 z0.2 0) fun v1 =>
callB W 56 [] σ (fun v2 σ3 =>
oF (vLen .sl v2 []) fun v4 =>
callB W 57 [] σ3 (fun v5 σ6 =>
oF (vLen .sl v5 σ6) fun v7 =>
oF (vBuild [(.list .nil []),(.list .nil []),(.list .nil []),(.list .nil []),(.list .nil []),(.list .nil []),(.list .nil []),(.list .nil []),(.list .nil []),(.list .nil []),(.int .i64 0),(.int .i64 0)] [(0,10,v1),(10,1,v4),(11,1,v7)]) fun v8 =>
oF (vPut 12 (.agg [(.list .nil []),(.list .nil []),(.list .nil []),(.list .nil []),(.list .nil []),(.list .nil []),(.list .nil []),(.list .nil []),(.list .nil []),(.list .nil []),(.int .i64 0),(.int .i64 0)]) 0 (.agg v8)) fun z9 =>
oF (vPart true 12 z9 0) fun v10 =>
oF (vPart true 12 z9 0) fun v11 =>
oF (vPart true 12 z9 0) fun v12 =>
oF (vPart true 12 z9 0) fun v13 =>
oF (vPart true 12 z9 0) fun v14 =>
oF (vBuildSl 1 (List.replicate 5 .nilfunc) [(0,(.func 58 1 [v10])),(1,(.func 59 1 [v11])),(2,(.func 60 1 [v12])),(3,(.func 61 1 [v13])),(4,(.func 62 1 [v14]))]) fun v15 =>
oF (vLen .sl (.list .full v15) σ6) fun v16 =>
packW [(25,(.list .full v15)),(26,v16),(27,(.int .i64 0)),(1,z0.2),(2,(.agg [(.int .i64 0),(.int .i64 0)])),(3,z9)] fun x51 =>
Lfp σ (fun Φ17 x18 σ19 =>
oF (vBin none .lss (x18 27) (x18 26)) fun v20 =>
condW v20 (
oF (vIndex 1 (x18 25) (x18 27)) fun v21 =>
oF (vLoad false 1 v21 σ19) fun v22 =>
callG (algP W) Pr false v22 [] σ19 (fun v23 σ24 =>
oF (vBin none .neq v23 (.int .i64 0)) fun v25 =>
condW v25 (
oF (vBuild [(.int .i64 0),(.int .i64 0)] [(1,1,v23)]) fun v26 =>
oF (vPut 2 (x18 2) 0 (.agg v26)) fun z27 =>
oF (resCons (vPart true 2 z27 0) (some [])) fun vs => wkR σ (vResults vs) σ24 R) (
oF (vBin none .add (x18 27) (.int .i64 1)) fun v28 =>
packW [(25,(x18 25)),(26,(x18 26)),(27,v28),(1,(x18 1)),(2,(x18 2)),(3,(x18 3))] fun x29 => Φ17 x29 σ24)) (pNR R)) (
oF (vPart false 1 (x18 1) 4) fun v32 =>
oF (vLen .sl v32 σ19) fun v33 =>
packW [(40,v33),(41,(.int .i64 0)),(2,(x18 2)),(3,(x18 3))] fun x50 =>
Lfp σ (fun Φ34 x35 σ36 =>
oF (vBin none .lss (x35 41) (x35 40)) fun v37 =>
condW v37 (
oF (vPart true 12 (x35 3) 0) fun v38 =>
callB W 63 [v38,(x35 41)] σ36 (fun v39 σ40 =>
oF (vBin none .neq v39 (.int .i64 0)) fun v41 =>
condW v41 (
oF (vBuild [(.int .i64 0),(.int .i64 0)] [(0,1,(x35 41)),(1,1,v39)]) fun v42 =>
oF (vPut 2 (x35 2) 0 (.agg v42)) fun z43 =>
oF (resCons (vPart true 2 z43 0) (some [])) fun vs => wkR σ (vResults vs) σ40 R) (
oF (vBin none .add (x35 41) (.int .i64 1)) fun v44 =>
packW [(40,(x35 40)),(41,v44),(2,(x35 2)),(3,(x35 3))] fun x45 => Φ34 x45 σ40)) (pNR R)) (
oF (vBuild [(.int .i64 0),(.int .i64 0)] []) fun v48 =>
oF (vPut 2 (x35 2) 0 (.agg v48)) fun z49 =>
oF (resCons (vPart true 2 z49 0) (some [])) fun vs => wkR σ (vResults vs) σ36 R)) x50 σ19)) x51 σ6) (fun e52 σ53 => False)) (fun e54 σ55 => False)
theorem fn24_eq (W : CallP) (a0 : PV) (σ : St) (R : Res → St → Prop) : bodyC (algP W) Tryz.prog annF 24 [a0] σ R = fn24 Tryz.prog W a0 σ R := by kernel_rfl
def fn25 (Pr : Program) (W : CallP) (a0 : PV) (σ : St) (R : Res → St → Prop) : Prop :=
oF (opC.vBoxAny a0) fun z0 =>
oF (vPart true 10 z0.2 0) fun v1 =>
callB W 64 [v1] σ (fun v2 σ3 =>
oF (vUn .not v2) fun v4 =>
condW v4 (
oF (vBuild [(.int .i64 0),(.int .i64 0)] [(1,1,(.int .i64 3))]) fun v5 =>
oF (vPut 2 (.agg [(.int .i64 0),(.int .i64 0)]) 0 (.agg v5)) fun z6 =>
oF (resCons (vPart true 2 z6 0) (some [])) fun vs => wkR σ (vResults vs) σ3 R) (
oF (vPart true 10 z0.2 0) fun v7 =>
callB W 65 [v7] σ3 (fun v8 σ9 =>
oF (vBin none .neq v8 (.int .i64 0)) fun v10 =>
condW v10 (
oF (vBuild [(.int .i64 0),(.int .i64 0)] [(1,1,v8)]) fun v11 =>
oF (vPut 2 (.agg [(.int .i64 0),(.int .i64 0)]) 0 (.agg v11)) fun z12 =>
oF (resCons (vPart true 2 z12 0) (some [])) fun vs => wkR σ (vResults vs) σ9 R) (
CutW σ (fun J13 =>
packW [(4,(.int .i64 0)),(1,z0.2),(2,(.agg [(.int .i64 0),(.int .i64 0)]))] fun x33 =>
Lfp σ (fun Φ16 x17 σ18 =>
oF (vPart false 1 (x17 1) 3) fun v19 =>
oF (vLen .sl v19 σ18) fun v20 =>
oF (vBin none .lss (x17 4) v20) fun v21 =>
condW v21 (
oF (vPart true 10 (x17 1) 0) fun v22 =>
callB W 66 [v22,(x17 4)] σ18 (fun v23 σ24 =>
oF (vBin none .neq v23 (.int .i64 0)) fun v25 =>
condW v25 (
oF (vBuild [(.int .i64 0),(.int .i64 0)] [(1,1,v23)]) fun v26 =>
oF (vPut 2 (x17 2) 0 (.agg v26)) fun z27 =>
oF (resCons (vPart true 2 z27 0) (some [])) fun vs => wkR σ (vResults vs) σ24 R) (
oF (vBin none .add (x17 4) (.int .i64 1)) fun v28 =>
packW [(4,v28),(1,(x17 1)),(2,(x17 2))] fun x29 => Φ16 x29 σ24)) (pNR R)) (
packW [(1,(x17 1)),(2,(x17 2))] fun x32 => J13 x32 σ18)) x33 σ9) (fun x14 σ15 =>
oF (vPart false 1 (x14 1) 3) fun v34 =>
oF (vLen .sl v34 σ15) fun v35 =>
oF (vBin none .eql v35 (.int .i64 0)) fun v36 =>
condW v36 (
oF (vBuild [(.int .i64 0),(.int .i64 0)] [(1,1,(.int .i64 12))]) fun v37 =>
oF (vPut 2 (x14 2) 0 (.agg v37)) fun z38 =>
oF (resCons (vPart true 2 z38 0) (some [])) fun vs => wkR σ (vResults vs) σ15 R) (
oF (vPart true 10 (x14 1) 0) fun v39 =>
callB W 67 [v39] σ15 (fun v40 σ41 =>
oF (vBin none .neq v40 (.int .i64 0)) fun v42 =>
condW v42 (
oF (vBuild [(.int .i64 0),(.int .i64 0)] [(1,1,v40)]) fun v43 =>
oF (vPut 2 (x14 2) 0 (.agg v43)) fun z44 =>
oF (resCons (vPart true 2 z44 0) (some [])) fun vs => wkR σ (vResults vs) σ41 R) (
callB W 68 [] σ41 (fun v45 σ46 =>
oF (vLen .sl v45 σ46) fun v47 =>
callB W 69 [] σ46 (fun v48 σ49 =>
oF (vLen .sl v48 σ49) fun v50 =>
CutW σ (fun J51 =>
packW [(7,v47),(8,v50),(9,(.int .i64 0)),(1,(x14 1)),(2,(x14 2))] fun x93 =>
Lfp σ (fun Φ54 x55 σ56 =>
oF (vPart false 1 (x55 1) 3) fun v57 =>
oF (vLen .sl v57 σ56) fun v58 =>
oF (vBin none .lss (x55 9) v58) fun v59 =>
condW v59 (
CutW σ (fun J60 =>
oF (vPart false 1 (x55 1) 3) fun v63 =>
oF (vIndex 9 v63 (x55 9)) fun v64 =>
oF (vField 2 v64) fun v65 =>
oF (vLoad false 1 v65 σ56) fun v66 =>
packW [(7,(x55 7)),(8,(x55 8)),(9,(x55 9)),(10,v66),(1,(x55 1)),(2,(x55 2))] fun x89 =>
Lfp σ (fun Φ67 x68 σ69 =>
oF (vPart false 1 (x68 1) 3) fun v70 =>
oF (vIndex 9 v70 (x68 9)) fun v71 =>
oF (vField 3 v71) fun v72 =>
oF (vLoad false 1 v72 σ69) fun v73 =>
oF (vBin none .lss (x68 10) v73) fun v74 =>
condW v74 (
oF (vPart true 10 (x68 1) 0) fun v75 =>
oF (vPart false 1 (x68 1) 4) fun v76 =>
oF (vIndex 12 v76 (x68 10)) fun v77 =>
oF (vLoad true 12 v77 σ69) fun v78 =>
callB W 70 [v75,(x68 9),v78,(x68 7),(x68 8)] σ69 (fun v79 σ80 =>
oF (vBin none .neq v79 (.int .i64 0)) fun v81 =>
condW v81 (
oF (vBuild [(.int .i64 0),(.int .i64 0)] [(0,1,(x68 10)),(1,1,v79)]) fun v82 =>
oF (vPut 2 (x68 2) 0 (.agg v82)) fun z83 =>
oF (resCons (vPart true 2 z83 0) (some [])) fun vs => wkR σ (vResults vs) σ80 R) (
oF (vBin none .add (x68 10) (.int .i64 1)) fun v84 =>
packW [(7,(x68 7)),(8,(x68 8)),(9,(x68 9)),(10,v84),(1,(x68 1)),(2,(x68 2))] fun x85 => Φ67 x85 σ80)) (pNR R)) (
packW [(7,(x68 7)),(8,(x68 8)),(9,(x68 9)),(1,(x68 1)),(2,(x68 2))] fun x88 => J60 x88 σ69)) x89 σ56) (fun x61 σ62 =>
oF (vBin none .add (x61 9) (.int .i64 1)) fun v90 =>
packW [(7,(x61 7)),(8,(x61 8)),(9,v90),(1,(x61 1)),(2,(x61 2))] fun x91 => Φ54 x91 σ62)) (
packW [(2,(x55 2))] fun x92 => J51 x92 σ56)) x93 σ49) (fun x52 σ53 =>
oF (vBuild [(.int .i64 0),(.int .i64 0)] []) fun v94 =>
oF (vPut 2 (x52 2) 0 (.agg v94)) fun z95 =>
oF (resCons (vPart true 2 z95 0) (some [])) fun vs => wkR σ (vResults vs) σ53 R)) (pNR R)) (pNR R))) (pNR R))))) (pNR R))) (pNR R)
theorem fn25_eq (W : CallP) (a0 : PV) (σ : St) (R : Res → St → Prop) : bodyC (algP W) Tryz.prog annF 25 [a0] σ R = fn25 Tryz.prog W a0 σ R := by kernel_rfl
def fn58 (Pr : Program) (W : CallP) (a0 : PV) (σ : St) (R : Res → St → Prop) : Prop :=
oF (opC.vBoxAny a0) fun z0 =>
oF (vPart false 1 z0.2 4) fun v1 =>
oF (vLen .sl v1 σ) fun v2 =>
oF (vPart false 1 z0.2 0) fun v3 =>
oF (vLen .sl v3 σ) fun v4 =>
oF (vPart false 1 z0.2 1) fun v5 =>
oF (vLen .sl v5 σ) fun v6 =>
oF (vPart false 1 z0.2 2) fun v7 =>
oF (vLen .sl v7 σ) fun v8 =>
oF (vPart false 1 z0.2 3) fun v9 =>
oF (vLen .sl v9 σ) fun v10 =>
oF (vPart false 1 z0.2 5) fun v11 =>
oF (vLen .sl v11 σ) fun v12 =>
oF (vPart false 1 z0.2 6) fun v13 =>
oF (vLen .sl v13 σ) fun v14 =>
oF (vPart false 1 z0.2 7) fun v15 =>
oF (vLen .sl v15 σ) fun v16 =>
oF (vPart false 1 z0.2 8) fun v17 =>
oF (vLen .sl v17 σ) fun v18 =>
oF (vPart false 1 z0.2 9) fun v19 =>
oF (vLen .sl v19 σ) fun v20 =>
oF (vBuildSl 1 (List.replicate 10 (.int .i64 0)) [(0,v2),(1,v4),(2,v6),(3,v8),(4,v10),(5,v12),(6,v14),(7,v16),(8,v18),(9,v20)]) fun v21 =>
oF (vLen .sl (.list .full v21) σ) fun v22 =>
packW [(48,(.list .full v21)),(49,v22),(50,(.int .i64 0)),(1,z0.2)] fun x77 =>
Lfp σ (fun Φ23 x24 σ25 =>
oF (vBin none .lss (x24 50) (x24 49)) fun v26 =>
condW v26 (
oF (vIndex 1 (x24 48) (x24 50)) fun v27 =>
oF (vLoad false 1 v27 σ25) fun v28 =>
oF (vBin none .gtr v28 (.int .i64 16384)) fun v29 =>
condW v29 (
wkR σ (.int .i64 3) σ25 R) (
oF (vBin none .add (x24 50) (.int .i64 1)) fun v30 =>
packW [(48,(x24 48)),(49,(x24 49)),(50,v30),(1,(x24 1))] fun x31 => Φ23 x31 σ25)) (
oF (vPart false 1 (x24 1) 0) fun v32 =>
callB W 104 [v32,(.func 105 0 [])] σ25 (fun v33 σ34 =>
if true = true then guardG False v33 false (fun J35 =>
oF (vPart false 1 (x24 1) 3) fun v38 =>
callB W 106 [v38,(.func 107 0 [])] σ34 (fun v39 σ40 =>
J35 (lookE [(62,(.loc 1 0)),(63,(.loc 1 3)),(64,(.v v38)),(65,(.v v39))]) σ40) (pNR R)) σ34 (fun y36 σ37 =>
oF (vPick v33 (.bool true) (y36 65).pv) fun v43 =>
if true = true then guardG False v43 false (fun J44 =>
oF (vPart false 1 (x24 1) 7) fun v47 =>
callB W 108 [v47,(.func 109 0 [])] σ37 (fun v48 σ49 =>
J44 (lookE [(68,(.loc 1 0)),(69,(.loc 1 7)),(70,(.v v47)),(71,(.v v48))]) σ49) (pNR R)) σ37 (fun y45 σ46 =>
oF (vPick v43 (.bool true) (y45 71).pv) fun v52 =>
oF (vPart false 1 (x24 1) 1) fun v53 =>
oF (vPart false 1 (x24 1) 5) fun v54 =>
oF (vPart false 1 (x24 1) 6) fun v55 =>
oF (vBuildSl 1 (List.replicate 3 (.list .nil [])) [(0,v53),(1,v54),(2,v55)]) fun v56 =>
oF (vLen .sl (.list .full v56) σ46) fun v57 =>
packW [(5,v52),(82,(.list .full v56)),(83,v57),(84,(.int .i64 0))] fun x74 =>
Lfp σ (fun Φ58 x59 σ60 =>
oF (vBin none .lss (x59 84) (x59 83)) fun v61 =>
condW v61 (
oF (vIndex 1 (x59 82) (x59 84)) fun v62 =>
oF (vLoad false 1 v62 σ60) fun v63 =>
if true = true then guardG False (x59 5) false (fun J64 =>
callB W 110 [v63,(.func 111 0 [])] σ60 (fun v67 σ68 =>
J64 (lookE [(90,(.v v63)),(91,(.v v67))]) σ68) (pNR R)) σ60 (fun y65 σ66 =>
oF (vPick (x59 5) (.bool true) (y65 91).pv) fun v71 =>
oF (vBin none .add (x59 84) (.int .i64 1)) fun v72 =>
packW [(5,v71),(82,(x59 82)),(83,(x59 83)),(84,v72)] fun x73 => Φ58 x73 σ66) else False) (
condW (x59 5) (
wkR σ (.int .i64 3) σ60 R) (
wkR σ (.int .i64 0) σ60 R))) x74 σ46) else False) else False) (pNR R))) x77 σ
theorem fn58_eq (W : CallP) (a0 : PV) (σ : St) (R : Res → St → Prop) : bodyC (algP W) Tryz.prog annF 58 [a0] σ R = fn58 Tryz.prog W a0 σ R := by kernel_rfl
def fn59 (Pr : Program) (W : CallP) (a0 : PV) (σ : St) (R : Res → St → Prop) : Prop :=
oF (opC.vBoxAny a0) fun z0 =>
oF (vPart false 1 z0.2 0) fun v1 =>
oF (vLen .sl v1 σ) fun v2 =>
packW [(9,v1),(10,v2),(11,(.int .i64 0)),(1,z0.2)] fun x31 =>
Lfp σ (fun Φ3 x4 σ5 =>
oF (vBin none .lss (x4 11) (x4 10)) fun v6 =>
condW v6 (
oF (vIndex 1 (x4 9) (x4 11)) fun v7 =>
oF (vLoad true 1 v7 σ5) fun v8 =>
oF (vPut 1 (.agg [(.list .nil [])]) 0 v8) fun z9 =>
oF (vPart false 1 z9 0) fun v10 =>
oF (vLen .sl v10 σ5) fun v11 =>
packW [(9,(x4 9)),(10,(x4 10)),(11,(x4 11)),(16,v10),(17,v11),(18,(.int .i64 0)),(1,(x4 1))] fun x30 =>
Lfp σ (fun Φ12 x13 σ14 =>
oF (vBin none .lss (x13 18) (x13 17)) fun v15 =>
condW v15 (
oF (vIndex 5 (x13 16) (x13 18)) fun v16 =>
oF (vLoad true 5 v16 σ14) fun v17 =>
oF (vPut 5 (.agg [(.int .i64 0),(.int .i64 0),(.int .i64 0),(.int .i64 0),(.bool false)]) 0 v17) fun z18 =>
oF (vPart true 12 (x13 1) 0) fun v19 =>
oF (vPart true 5 z18 0) fun v20 =>
callB W 112 [v19,v20] σ14 (fun v21 σ22 =>
oF (vUn .not v21) fun v23 =>
condW v23 (
wkR σ (.int .i64 13) σ22 R) (
oF (vBin none .add (x13 18) (.int .i64 1)) fun v24 =>
packW [(9,(x13 9)),(10,(x13 10)),(11,(x13 11)),(16,(x13 16)),(17,(x13 17)),(18,v24),(1,(x13 1))] fun x25 => Φ12 x25 σ22)) (pNR R)) (
oF (vBin none .add (x13 11) (.int .i64 1)) fun v28 =>
packW [(9,(x13 9)),(10,(x13 10)),(11,v28),(1,(x13 1))] fun x29 => Φ3 x29 σ14)) x30 σ5) (
wkR σ (.int .i64 0) σ5 R)) x31 σ
theorem fn59_eq (W : CallP) (a0 : PV) (σ : St) (R : Res → St → Prop) : bodyC (algP W) Tryz.prog annF 59 [a0] σ R = fn59 Tryz.prog W a0 σ R := by kernel_rfl
def fn60 (Pr : Program) (W : CallP) (a0 : PV) (σ : St) (R : Res → St → Prop) : Prop :=
oF (opC.vBoxAny a0) fun z0 =>
if 0 < z0.1 then newW z0.1 z0.2 σ fun p1 σ2 =>
oF (vField 0 p1) fun v3 =>
oF (vField 1 v3) fun v4 =>
oF (vLoad false 1 v4 σ2) fun v5 =>
oF (vLen .sl v5 σ2) fun v6 =>
packW [(1,p1),(9,v5),(10,v6),(11,(.int .i64 0))] fun x64 =>
Lfp σ (fun Φ7 x8 σ9 =>
oF (vBin none .lss (x8 11) (x8 10)) fun v10 =>
condW v10 (
oF (vIndex 1 (x8 9) (x8 11)) fun v11 =>
oF (vLoad false 1 v11 σ9) fun v12 =>
callB W 113 [v12,(.func 114 0 [(x8 1)])] σ9 (fun v13 σ14 =>
condW v13 (
wkR σ (.int .i64 11) σ14 R) (
oF (vBin none .add (x8 11) (.int .i64 1)) fun v15 =>
packW [(1,(x8 1)),(9,(x8 9)),(10,(x8 10)),(11,v15)] fun x16 => Φ7 x16 σ14)) (pNR R)) (
oF (vField 0 (x8 1)) fun v19 =>
oF (vField 2 v19) fun v20 =>
oF (vLoad false 1 v20 σ9) fun v21 =>
oF (vLen .sl v21 σ9) fun v22 =>
packW [(1,(x8 1)),(21,v21),(22,v22),(23,(.int .i64 0))] fun x63 =>
Lfp σ (fun Φ23 x24 σ25 =>
oF (vBin none .lss (x24 23) (x24 22)) fun v26 =>
condW v26 (
oF (vIndex 2 (x24 21) (x24 23)) fun v27 =>
oF (vLoad true 2 v27 σ25) fun v28 =>
oF (vPut 2 (.agg [(.int .i64 0),(.int .i64 0)]) 0 v28) fun z29 =>
oF (vPart false 1 z29 0) fun v30 =>
oF (vField 0 (x24 1)) fun v31 =>
oF (vField 0 v31) fun v32 =>
oF (vLoad false 1 v32 σ25) fun v33 =>
oF (vLen .sl v33 σ25) fun v34 =>
callB W 42 [v30,v34] σ25 (fun v35 σ36 =>
oF (vUn .not v35) fun v37 =>
if true = true then guardG False v37 false (fun J38 =>
oF (vPart false 1 z29 1) fun v41 =>
oF (vField 0 (x24 1)) fun v42 =>
oF (vField 0 v42) fun v43 =>
oF (vLoad false 1 v43 σ36) fun v44 =>
oF (vLen .sl v44 σ36) fun v45 =>
callB W 42 [v41,v45] σ36 (fun v46 σ47 =>
oF (vUn .not v46) fun v48 =>
J38 (lookE [(36,(.loc 6 1)),(37,(.v v41)),(38,(.v v42)),(39,(.v v43)),(40,(.v v44)),(41,(.v v45)),(42,(.v v46)),(43,(.v v48))]) σ47) (pNR R)) σ36 (fun y39 σ40 =>
oF (vPick v37 (.bool true) (y39 43).pv) fun v51 =>
condW v51 (
wkR σ (.int .i64 11) σ40 R) (
oF (vBin none .add (x24 23) (.int .i64 1)) fun v52 =>
packW [(1,(x24 1)),(21,(x24 21)),(22,(x24 22)),(23,v52)] fun x53 => Φ23 x53 σ40)) else False) (pNR R)) (
oF (vField 0 (x24 1)) fun v56 =>
oF (vField 1 v56) fun v57 =>
oF (vLoad false 1 v57 σ25) fun v58 =>
callB W 110 [v58,(.func 115 0 [])] σ25 (fun v59 σ60 =>
condW v59 (
wkR σ (.int .i64 12) σ60 R) (
wkR σ (.int .i64 0) σ60 R)) (pNR R))) x63 σ9)) x64 σ2 else False
theorem fn60_eq (W : CallP) (a0 : PV) (σ : St) (R : Res → St → Prop) : bodyC (algP W) Tryz.prog annF 60 [a0] σ R = fn60 Tryz.prog W a0 σ R := by kernel_rfl
def fn61 (Pr : Program) (W : CallP) (a0 : PV) (σ : St) (R : Res → St → Prop) : Prop :=
oF (opC.vBoxAny a0) fun z0 =>
oF (vPart false 1 z0.2 3) fun v1 =>
oF (vLen .sl v1 σ) fun v2 =>
oF (vBin none .eql v2 (.int .i64 0)) fun v3 =>
condW v3 (
wkR σ (.int .i64 12) σ R) (
oF (vPart false 1 z0.2 3) fun v4 =>
oF (vLen .sl v4 σ) fun v5 =>
packW [(13,v5),(14,(.int .i64 0)),(1,z0.2)] fun x18 =>
Lfp σ (fun Φ6 x7 σ8 =>
oF (vBin none .lss (x7 14) (x7 13)) fun v9 =>
condW v9 (
oF (vPart true 12 (x7 1) 0) fun v10 =>
callB W 116 [v10,(x7 14)] σ8 (fun v11 σ12 =>
oF (vBin none .neq v11 (.int .i64 0)) fun v13 =>
condW v13 (
wkR σ v11 σ12 R) (
oF (vBin none .add (x7 14) (.int .i64 1)) fun v14 =>
packW [(13,(x7 13)),(14,v14),(1,(x7 1))] fun x15 => Φ6 x15 σ12)) (pNR R)) (
wkR σ (.int .i64 0) σ8 R)) x18 σ)
theorem fn61_eq (W : CallP) (a0 : PV) (σ : St) (R : Res → St → Prop) : bodyC (algP W) Tryz.prog annF 61 [a0] σ R = fn61 Tryz.prog W a0 σ R := by kernel_rfl
def fn62 (Pr : Program) (W : CallP) (a0 : PV) (σ : St) (R : Res → St → Prop) : Prop :=
oF (opC.vBoxAny a0) fun z0 =>
oF (vPart false 1 z0.2 8) fun v1 =>
oF (vLen .sl v1 σ) fun v2 =>
packW [(10,v1),(11,v2),(12,(.int .i64 0)),(1,z0.2)] fun x70 =>
Lfp σ (fun Φ3 x4 σ5 =>
oF (vBin none .lss (x4 12) (x4 11)) fun v6 =>
condW v6 (
oF (vIndex 3 (x4 10) (x4 12)) fun v7 =>
oF (vLoad true 3 v7 σ5) fun v8 =>
oF (vPut 3 (.agg [(.str []),(.bool false),(.int .i64 0)]) 0 v8) fun z9 =>
oF (vPart false 1 z9 0) fun v10 =>
oF (vBin none .eql v10 (.str [])) fun v11 =>
if true = true then guardG False v11 false (fun J12 =>
oF (vPart false 1 z9 0) fun v15 =>
callB W 117 [v15,(.str [32])] σ5 (fun v16 σ17 =>
J12 (lookE [(20,(.loc 4 0)),(21,(.v v15)),(22,(.v v16))]) σ17) (pNR R)) σ5 (fun y13 σ14 =>
oF (vPick v11 (.bool true) (y13 22).pv) fun v20 =>
if true = true then guardG False v20 false (fun J21 =>
oF (vPart false 1 z9 0) fun v24 =>
oF (vBin none .add (.str [32]) v24) fun v25 =>
oF (vBin none .add v25 (.str [32])) fun v26 =>
callB W 117 [(.str [32,112,114,105,110,116,32,114,101,97,100,32,112,114,105,110,116,102,32,114,101,97,100,102,32,112,117,116,98,105,110,32,103,101,116,98,105,110,32]),v26] σ14 (fun v27 σ28 =>
oF (vUn .not v27) fun v29 =>
J21 (lookE [(25,(.loc 4 0)),(26,(.v v24)),(27,(.v v25)),(28,(.v v26)),(29,(.v v27)),(30,(.v v29))]) σ28) (pNR R)) σ14 (fun y22 σ23 =>
oF (vPick v20 (.bool true) (y22 30).pv) fun v32 =>
if true = true then guardG False v32 false (fun J33 =>
oF (vPart false 1 z9 2) fun v36 =>
oF (vPart false 1 (x4 1) 0) fun v37 =>
oF (vLen .sl v37 σ23) fun v38 =>
callB W 42 [v36,v38] σ23 (fun v39 σ40 =>
oF (vUn .not v39) fun v41 =>
J33 (lookE [(33,(.loc 4 2)),(34,(.v v36)),(35,(.loc 1 0)),(36,(.loc 1 0)),(37,(.v v37)),(38,(.v v38)),(39,(.v v39)),(40,(.v v41))]) σ40) (pNR R)) σ23 (fun y34 σ35 =>
oF (vPick v32 (.bool true) (y34 40).pv) fun v44 =>
condW v44 (
wkR σ (.int .i64 11) σ35 R) (
oF (vBin none .add (x4 12) (.int .i64 1)) fun v45 =>
packW [(10,(x4 10)),(11,(x4 11)),(12,v45),(1,(x4 1))] fun x46 => Φ3 x46 σ35)) else False) else False) else False) (
oF (vPart false 1 (x4 1) 9) fun v47 =>
oF (vLen .sl v47 σ5) fun v48 =>
packW [(5,(.int .i64 (-1))),(45,v47),(46,v48),(47,(.int .i64 0)),(1,(x4 1))] fun x69 =>
Lfp σ (fun Φ49 x50 σ51 =>
oF (vBin none .lss (x50 47) (x50 46)) fun v52 =>
condW v52 (
oF (vIndex 2 (x50 45) (x50 47)) fun v53 =>
oF (vLoad true 2 v53 σ51) fun v54 =>
oF (vPut 2 (.agg [(.int .i64 0),(.int .i64 0)]) 0 v54) fun z55 =>
oF (vPart false 1 z55 0) fun v56 =>
oF (vBin none .leq v56 (x50 5)) fun v57 =>
if true = true then guardG False v57 false (fun J58 =>
oF (vPart false 1 z55 0) fun v61 =>
oF (vPart false 1 (x50 1) 4) fun v62 =>
oF (vLen .sl v62 σ51) fun v63 =>
oF (vBin none .geq v61 v63) fun v64 =>
J58 (lookE [(56,(.loc 7 0)),(57,(.v v61)),(58,(.loc 1 0)),(59,(.loc 1 4)),(60,(.v v62)),(61,(.v v63)),(62,(.v v64))]) σ51) σ51 (fun y59 σ60 =>
oF (vPick v57 (.bool true) (y59 62).pv) fun v65 =>
condW v65 (
wkR σ (.int .i64 10) σ60 R) (
oF (vPart false 1 z55 0) fun v66 =>
oF (vBin none .add (x50 47) (.int .i64 1)) fun v67 =>
packW [(5,v66),(45,(x50 45)),(46,(x50 46)),(47,v67),(1,(x50 1))] fun x68 => Φ49 x68 σ60)) else False) (
wkR σ (.int .i64 0) σ51 R)) x69 σ5)) x70 σ
theorem fn62_eq (W : CallP) (a0 : PV) (σ : St) (R : Res → St → Prop) : bodyC (algP W) Tryz.prog annF 62 [a0] σ R = fn62 Tryz.prog W a0 σ R := by kernel_rfl
def fn64 (Pr : Program) (W : CallP) (a0 : PV) (σ : St) (R : Res → St → Prop) : Prop :=
oF (opC.vBoxAny a0) fun z0 =>
oF (vPart false 1 z0.2 4) fun v1 =>
oF (vLen .sl v1 σ) fun v2 =>
oF (vBin none .gtr v2 (.int .i64 16384)) fun v3 =>
if true = true then guardG False v3 false (fun J4 =>
oF (vPart false 1 z0.2 0) fun v7 =>
oF (vLen .sl v7 σ) fun v8 =>
oF (vBin none .gtr v8 (.int .i64 16384)) fun v9 =>
J4 (lookE [(11,(.loc 1 0)),(12,(.v v7)),(13,(.v v8)),(14,(.v v9))]) σ) σ (fun y5 σ6 =>
oF (vPick v3 (.bool true) (y5 14).pv) fun v10 =>
if true = true then guardG False v10 false (fun J11 =>
oF (vPart false 1 z0.2 2) fun v14 =>
oF (vLen .sl v14 σ6) fun v15 =>
oF (vBin none .gtr v15 (.int .i64 16384)) fun v16 =>
J11 (lookE [(17,(.loc 1 2)),(18,(.v v14)),(19,(.v v15)),(20,(.v v16))]) σ6) σ6 (fun y12 σ13 =>
oF (vPick v10 (.bool true) (y12 20).pv) fun v17 =>
if true = true then guardG False v17 false (fun J18 =>
oF (vPart false 1 z0.2 3) fun v21 =>
oF (vLen .sl v21 σ13) fun v22 =>
oF (vBin none .gtr v22 (.int .i64 16384)) fun v23 =>
J18 (lookE [(23,(.loc 1 3)),(24,(.v v21)),(25,(.v v22)),(26,(.v v23))]) σ13) σ13 (fun y19 σ20 =>
oF (vPick v17 (.bool true) (y19 26).pv) fun v24 =>
if true = true then guardG False v24 false (fun J25 =>
oF (vPart false 1 z0.2 7) fun v28 =>
oF (vLen .sl v28 σ20) fun v29 =>
oF (vBin none .gtr v29 (.int .i64 16384)) fun v30 =>
J25 (lookE [(29,(.loc 1 7)),(30,(.v v28)),(31,(.v v29)),(32,(.v v30))]) σ20) σ20 (fun y26 σ27 =>
oF (vPick v24 (.bool true) (y26 32).pv) fun v31 =>
if true = true then guardG False v31 false (fun J32 =>
oF (vPart false 1 z0.2 8) fun v35 =>
oF (vLen .sl v35 σ27) fun v36 =>
oF (vBin none .gtr v36 (.int .i64 16384)) fun v37 =>
J32 (lookE [(35,(.loc 1 8)),(36,(.v v35)),(37,(.v v36)),(38,(.v v37))]) σ27) σ27 (fun y33 σ34 =>
oF (vPick v31 (.bool true) (y33 38).pv) fun v38 =>
if true = true then guardG False v38 false (fun J39 =>
oF (vPart false 1 z0.2 9) fun v42 =>
oF (vLen .sl v42 σ34) fun v43 =>
oF (vBin none .gtr v43 (.int .i64 16384)) fun v44 =>
J39 (lookE [(41,(.loc 1 9)),(42,(.v v42)),(43,(.v v43)),(44,(.v v44))]) σ34) σ34 (fun y40 σ41 =>
oF (vPick v38 (.bool true) (y40 44).pv) fun v45 =>
if true = true then guardG False v45 false (fun J46 =>
oF (vPart false 1 z0.2 1) fun v49 =>
callB W 122 [v49] σ41 (fun v50 σ51 =>
J46 (lookE [(47,(.loc 1 1)),(48,(.v v49)),(49,(.v v50))]) σ51) (pNR R)) σ41 (fun y47 σ48 =>
oF (vPick v45 (.bool true) (y47 49).pv) fun v54 =>
if true = true then guardG False v54 false (fun J55 =>
oF (vPart false 1 z0.2 5) fun v58 =>
callB W 122 [v58] σ48 (fun v59 σ60 =>
J55 (lookE [(52,(.loc 1 5)),(53,(.v v58)),(54,(.v v59))]) σ60) (pNR R)) σ48 (fun y56 σ57 =>
oF (vPick v54 (.bool true) (y56 54).pv) fun v63 =>
if true = true then guardG False v63 false (fun J64 =>
oF (vPart false 1 z0.2 6) fun v67 =>
callB W 122 [v67] σ57 (fun v68 σ69 =>
J64 (lookE [(57,(.loc 1 6)),(58,(.v v67)),(59,(.v v68))]) σ69) (pNR R)) σ57 (fun y65 σ66 =>
oF (vPick v63 (.bool true) (y65 59).pv) fun v72 =>
condW v72 (
wkR σ (.bool false) σ66 R) (
CutW σ (fun J73 =>
packW [(3,(.int .i64 0)),(1,z0.2)] fun x91 =>
Lfp σ (fun Φ76 x77 σ78 =>
oF (vPart false 1 (x77 1) 0) fun v79 =>
oF (vLen .sl v79 σ78) fun v80 =>
oF (vBin none .lss (x77 3) v80) fun v81 =>
condW v81 (
oF (vPart false 1 (x77 1) 0) fun v82 =>
oF (vIndex 1 v82 (x77 3)) fun v83 =>
oF (vField 0 v83) fun v84 =>
oF (vLoad false 1 v84 σ78) fun v85 =>
oF (vLen .sl v85 σ78) fun v86 =>
oF (vBin none .gtr v86 (.int .i64 1000)) fun v87 =>
condW v87 (
wkR σ (.bool false) σ78 R) (
oF (vBin none .add (x77 3) (.int .i64 1)) fun v88 =>
packW [(3,v88),(1,(x77 1))] fun x89 => Φ76 x89 σ78)) (
packW [(1,(x77 1))] fun x90 => J73 x90 σ78)) x91 σ66) (fun x74 σ75 =>
CutW σ (fun J92 =>
packW [(4,(.int .i64 0)),(1,(x74 1))] fun x110 =>
Lfp σ (fun Φ95 x96 σ97 =>
oF (vPart false 1 (x96 1) 3) fun v98 =>
oF (vLen .sl v98 σ97) fun v99 =>
oF (vBin none .lss (x96 4) v99) fun v100 =>
condW v100 (
oF (vPart false 1 (x96 1) 3) fun v101 =>
oF (vIndex 9 v101 (x96 4)) fun v102 =>
oF (vField 8 v102) fun v103 =>
oF (vLoad false 1 v103 σ97) fun v104 =>
oF (vLen .sl v104 σ97) fun v105 =>
oF (vBin none .gtr v105 (.int .i64 4000)) fun v106 =>
condW v106 (
wkR σ (.bool false) σ97 R) (
oF (vBin none .add (x96 4) (.int .i64 1)) fun v107 =>
packW [(4,v107),(1,(x96 1))] fun x108 => Φ95 x108 σ97)) (
packW [(1,(x96 1))] fun x109 => J92 x109 σ97)) x110 σ75) (fun x93 σ94 =>
CutW σ (fun J111 =>
packW [(5,(.int .i64 0)),(1,(x93 1))] fun x128 =>
Lfp σ (fun Φ114 x115 σ116 =>
oF (vPart false 1 (x115 1) 7) fun v117 =>
oF (vLen .sl v117 σ116) fun v118 =>
oF (vBin none .lss (x115 5) v118) fun v119 =>
condW v119 (
oF (vPart false 1 (x115 1) 7) fun v120 =>
oF (vIndex 1 v120 (x115 5)) fun v121 =>
oF (vLoad false 1 v121 σ116) fun v122 =>
oF (vLen .str v122 σ116) fun v123 =>
oF (vBin none .gtr v123 (.int .i64 65536)) fun v124 =>
condW v124 (
wkR σ (.bool false) σ116 R) (
oF (vBin none .add (x115 5) (.int .i64 1)) fun v125 =>
packW [(5,v125),(1,(x115 1))] fun x126 => Φ114 x126 σ116)) (
packW [] fun x127 => J111 x127 σ116)) x128 σ94) (fun x112 σ113 =>
wkR σ (.bool true) σ113 R))))) else False) else False) else False) else False) else False) else False) else False) else False) else False
theorem fn64_eq (W : CallP) (a0 : PV) (σ : St) (R : Res → St → Prop) : bodyC (algP W) Tryz.prog annF 64 [a0] σ R = fn64 Tryz.prog W a0 σ R := by kernel_rfl
def fn65 (Pr : Program) (W : CallP) (a0 : PV) (σ : St) (R : Res → St → Prop) : Prop :=
oF (opC.vBoxAny a0) fun z0 =>
CutW σ (fun J1 =>
packW [(3,(.int .i64 0)),(1,z0.2)] fun x41 =>
Lfp σ (fun Φ4 x5 σ6 =>
oF (vPart false 1 (x5 1) 0) fun v7 =>
oF (vLen .sl v7 σ6) fun v8 =>
oF (vBin none .lss (x5 3) v8) fun v9 =>
condW v9 (
CutW σ (fun J10 =>
packW [(3,(x5 3)),(4,(.int .i64 0)),(1,(x5 1))] fun x37 =>
Lfp σ (fun Φ13 x14 σ15 =>
oF (vPart false 1 (x14 1) 0) fun v16 =>
oF (vIndex 1 v16 (x14 3)) fun v17 =>
oF (vField 0 v17) fun v18 =>
oF (vLoad false 1 v18 σ15) fun v19 =>
oF (vLen .sl v19 σ15) fun v20 =>
oF (vBin none .lss (x14 4) v20) fun v21 =>
condW v21 (
oF (vPart true 10 (x14 1) 0) fun v22 =>
oF (vPart false 1 (x14 1) 0) fun v23 =>
oF (vIndex 1 v23 (x14 3)) fun v24 =>
oF (vField 0 v24) fun v25 =>
oF (vLoad false 1 v25 σ15) fun v26 =>
oF (vIndex 5 v26 (x14 4)) fun v27 =>
oF (vLoad true 5 v27 σ15) fun v28 =>
callB W 123 [v22,v28] σ15 (fun v29 σ30 =>
oF (vUn .not v29) fun v31 =>
condW v31 (
wkR σ (.int .i64 13) σ30 R) (
oF (vBin none .add (x14 4) (.int .i64 1)) fun v32 =>
packW [(3,(x14 3)),(4,v32),(1,(x14 1))] fun x33 => Φ13 x33 σ30)) (pNR R)) (
packW [(3,(x14 3)),(1,(x14 1))] fun x36 => J10 x36 σ15)) x37 σ6) (fun x11 σ12 =>
oF (vBin none .add (x11 3) (.int .i64 1)) fun v38 =>
packW [(3,v38),(1,(x11 1))] fun x39 => Φ4 x39 σ12)) (
packW [(1,(x5 1))] fun x40 => J1 x40 σ6)) x41 σ) (fun x2 σ3 =>
CutW σ (fun J42 =>
packW [(5,(.int .i64 0)),(1,(x2 1))] fun x81 =>
Lfp σ (fun Φ45 x46 σ47 =>
oF (vPart false 1 (x46 1) 1) fun v48 =>
oF (vLen .sl v48 σ47) fun v49 =>
oF (vBin none .lss (x46 5) v49) fun v50 =>
condW v50 (
CutW σ (fun J51 =>
packW [(5,(x46 5)),(6,(.int .i64 0)),(1,(x46 1))] fun x77 =>
Lfp σ (fun Φ54 x55 σ56 =>
oF (vPart false 1 (x55 1) 1) fun v57 =>
oF (vIndex 1 v57 (x55 5)) fun v58 =>
oF (vLoad false 1 v58 σ56) fun v59 =>
oF (vLen .sl v59 σ56) fun v60 =>
oF (vBin none .lss (x55 6) v60) fun v61 =>
condW v61 (
oF (vPart false 1 (x55 1) 1) fun v62 =>
oF (vIndex 1 v62 (x55 5)) fun v63 =>
oF (vLoad false 1 v63 σ56) fun v64 =>
oF (vIndex 1 v64 (x55 6)) fun v65 =>
oF (vLoad false 1 v65 σ56) fun v66 =>
oF (vPart false 1 (x55 1) 0) fun v67 =>
oF (vLen .sl v67 σ56) fun v68 =>
callB W 75 [v66,v68] σ56 (fun v69 σ70 =>
oF (vUn .not v69) fun v71 =>
condW v71 (
wkR σ (.int .i64 11) σ70 R) (
oF (vBin none .add (x55 6) (.int .i64 1)) fun v72 =>
packW [(5,(x55 5)),(6,v72),(1,(x55 1))] fun x73 => Φ54 x73 σ70)) (pNR R)) (
packW [(5,(x55 5)),(1,(x55 1))] fun x76 => J51 x76 σ56)) x77 σ47) (fun x52 σ53 =>
oF (vBin none .add (x52 5) (.int .i64 1)) fun v78 =>
packW [(5,v78),(1,(x52 1))] fun x79 => Φ45 x79 σ53)) (
packW [(1,(x46 1))] fun x80 => J42 x80 σ47)) x81 σ3) (fun x43 σ44 =>
CutW σ (fun J82 =>
packW [(7,(.int .i64 0)),(1,(x43 1))] fun x120 =>
Lfp σ (fun Φ85 x86 σ87 =>
oF (vPart false 1 (x86 1) 2) fun v88 =>
oF (vLen .sl v88 σ87) fun v89 =>
oF (vBin none .lss (x86 7) v89) fun v90 =>
condW v90 (
oF (vPart false 1 (x86 1) 2) fun v91 =>
oF (vIndex 2 v91 (x86 7)) fun v92 =>
oF (vField 0 v92) fun v93 =>
oF (vLoad false 1 v93 σ87) fun v94 =>
oF (vPart false 1 (x86 1) 0) fun v95 =>
oF (vLen .sl v95 σ87) fun v96 =>
callB W 75 [v94,v96] σ87 (fun v97 σ98 =>
oF (vUn .not v97) fun v99 =>
if true = true then guardG False v99 false (fun J100 =>
oF (vPart false 1 (x86 1) 2) fun v103 =>
oF (vIndex 2 v103 (x86 7)) fun v104 =>
oF (vField 1 v104) fun v105 =>
oF (vLoad false 1 v105 σ98) fun v106 =>
oF (vPart false 1 (x86 1) 0) fun v107 =>
oF (vLen .sl v107 σ98) fun v108 =>
callB W 75 [v106,v108] σ98 (fun v109 σ110 =>
oF (vUn .not v109) fun v111 =>
J100 (lookE [(88,(.loc 1 2)),(89,(.v v103)),(90,(.v (x86 7))),(91,(.v v104)),(92,(.v v105)),(93,(.v v106)),(94,(.loc 1 0)),(95,(.v v107)),(96,(.v v108)),(97,(.v v109)),(98,(.v v111))]) σ110) (pNR R)) σ98 (fun y101 σ102 =>
oF (vPick v99 (.bool true) (y101 98).pv) fun v114 =>
condW v114 (
wkR σ (.int .i64 11) σ102 R) (
oF (vBin none .add (x86 7) (.int .i64 1)) fun v115 =>
packW [(7,v115),(1,(x86 1))] fun x116 => Φ85 x116 σ102)) else False) (pNR R)) (
packW [(1,(x86 1))] fun x119 => J82 x119 σ87)) x120 σ44) (fun x83 σ84 =>
CutW σ (fun J121 =>
packW [(8,(.int .i64 0)),(1,(x83 1))] fun x138 =>
Lfp σ (fun Φ124 x125 σ126 =>
oF (vPart false 1 (x125 1) 1) fun v127 =>
oF (vLen .sl v127 σ126) fun v128 =>
oF (vBin none .lss (x125 8) v128) fun v129 =>
condW v129 (
oF (vPart false 1 (x125 1) 1) fun v130 =>
oF (vIndex 1 v130 (x125 8)) fun v131 =>
oF (vLoad false 1 v131 σ126) fun v132 =>
oF (vLen .sl v132 σ126) fun v133 =>
oF (vBin none .eql v133 (.int .i64 0)) fun v134 =>
condW v134 (
wkR σ (.int .i64 12) σ126 R) (
oF (vBin none .add (x125 8) (.int .i64 1)) fun v135 =>
packW [(8,v135),(1,(x125 1))] fun x136 => Φ124 x136 σ126)) (
packW [] fun x137 => J121 x137 σ126)) x138 σ84) (fun x122 σ123 =>
wkR σ (.int .i64 0) σ123 R))))
theorem fn65_eq (W : CallP) (a0 : PV) (σ : St) (R : Res → St → Prop) : bodyC (algP W) Tryz.prog annF 65 [a0] σ R = fn65 Tryz.prog W a0 σ R := by kernel_rfl
def fn67 (Pr : Program) (W : CallP) (a0 : PV) (σ : St) (R : Res → St → Prop) : Prop :=
oF (opC.vBoxAny a0) fun z0 =>
CutW σ (fun J1 =>
packW [(3,(.int .i64 0)),(1,z0.2)] fun x61 =>
Lfp σ (fun Φ4 x5 σ6 =>
oF (vPart false 1 (x5 1) 8) fun v7 =>
oF (vLen .sl v7 σ6) fun v8 =>
oF (vBin none .lss (x5 3) v8) fun v9 =>
condW v9 (
CutW σ (fun J10 =>
CutW σ (fun J13 =>
packW [(3,(x5 3)),(4,(.bool false)),(5,(.int .i64 0)),(1,(x5 1))] fun x40 =>
Lfp σ (fun Φ16 x17 σ18 =>
callB W 126 [] σ18 (fun v19 σ20 =>
oF (vLen .sl v19 σ20) fun v21 =>
oF (vBin none .lss (x17 5) v21) fun v22 =>
condW v22 (
if true = true then guardG False (x17 4) false (fun J23 =>
oF (vPart false 1 (x17 1) 8) fun v26 =>
oF (vIndex 3 v26 (x17 3)) fun v27 =>
oF (vField 0 v27) fun v28 =>
oF (vLoad false 1 v28 σ20) fun v29 =>
callC W 126 [] σ20 fun v30 _ =>
oF (vIndex 1 v30 (x17 5)) fun v31 =>
oF (vLoad false 1 v31 σ20) fun v32 =>
oF (vBin none .eql v29 v32) fun v33 =>
J23 (lookE [(22,(.loc 1 8)),(23,(.v v26)),(24,(.v (x17 3))),(25,(.v v27)),(26,(.v v28)),(27,(.v v29)),(29,(.v (x17 5))),(28,(.v v30)),(30,(.v v31)),(31,(.v v32)),(32,(.v v33))]) σ20) σ20 (fun y24 σ25 =>
oF (vPick (x17 4) (.bool true) (y24 32).pv) fun v34 =>
oF (vBin none .add (x17 5) (.int .i64 1)) fun v35 =>
packW [(3,(x17 3)),(4,v34),(5,v35),(1,(x17 1))] fun x36 => Φ16 x36 σ25) else False) (
packW [(3,(x17 3)),(4,(x17 4)),(1,(x17 1))] fun x37 => J13 x37 σ20)) (pNR R)) x40 σ6) (fun x14 σ15 =>
oF (vUn .not (x14 4)) fun v41 =>
if true = true then guardG False v41 false (fun J42 =>
oF (vPart false 1 (x14 1) 8) fun v45 =>
oF (vIndex 3 v45 (x14 3)) fun v46 =>
oF (vField 2 v46) fun v47 =>
oF (vLoad false 1 v47 σ15) fun v48 =>
oF (vPart false 1 (x14 1) 0) fun v49 =>
oF (vLen .sl v49 σ15) fun v50 =>
callB W 75 [v48,v50] σ15 (fun v51 σ52 =>
oF (vUn .not v51) fun v53 =>
J42 (lookE [(37,(.loc 1 8)),(38,(.v v45)),(39,(.v (x14 3))),(40,(.v v46)),(41,(.v v47)),(42,(.v v48)),(43,(.loc 1 0)),(44,(.v v49)),(45,(.v v50)),(46,(.v v51)),(47,(.v v53))]) σ52) (pNR R)) σ15 (fun y43 σ44 =>
oF (vPick v41 (.bool true) (y43 47).pv) fun v56 =>
condW v56 (
wkR σ (.int .i64 11) σ44 R) (
packW [(3,(x14 3)),(1,(x14 1))] fun x57 => J10 x57 σ44)) else False)) (fun x11 σ12 =>
oF (vBin none .add (x11 3) (.int .i64 1)) fun v58 =>
packW [(3,v58),(1,(x11 1))] fun x59 => Φ4 x59 σ12)) (
packW [(1,(x5 1))] fun x60 => J1 x60 σ6)) x61 σ) (fun x2 σ3 =>
CutW σ (fun J62 =>
packW [(6,(.int .i64 0)),(1,(x2 1))] fun x107 =>
Lfp σ (fun Φ65 x66 σ67 =>
oF (vPart false 1 (x66 1) 9) fun v68 =>
oF (vLen .sl v68 σ67) fun v69 =>
oF (vBin none .lss (x66 6) v69) fun v70 =>
condW v70 (
oF (vPart false 1 (x66 1) 9) fun v71 =>
oF (vIndex 2 v71 (x66 6)) fun v72 =>
oF (vField 0 v72) fun v73 =>
oF (vLoad false 1 v73 σ67) fun v74 =>
oF (vPart false 1 (x66 1) 4) fun v75 =>
oF (vLen .sl v75 σ67) fun v76 =>
callB W 75 [v74,v76] σ67 (fun v77 σ78 =>
oF (vUn .not v77) fun v79 =>
if true = true then guardG False v79 false (fun J80 =>
oF (vBin none .gtr (x66 6) (.int .i64 0)) fun v83 =>
J80 (lookE [(68,(.v (x66 6))),(69,(.v v83)),(70,(.v v83))]) σ78) σ78 (fun y81 σ82 =>
if true = true then guardG False (y81 70).pv true (fun J84 =>
oF (vPart false 1 (x66 1) 9) fun v87 =>
oF (vIndex 2 v87 (x66 6)) fun v88 =>
oF (vField 0 v88) fun v89 =>
oF (vLoad false 1 v89 σ82) fun v90 =>
oF (vPart false 1 (x66 1) 9) fun v91 =>
oF (vBin none .sub (x66 6) (.int .i64 1)) fun v92 =>
oF (vIndex 2 v91 v92) fun v93 =>
oF (vField 0 v93) fun v94 =>
oF (vLoad false 1 v94 σ82) fun v95 =>
oF (vBin none .leq v90 v95) fun v96 =>
J84 (lookE [(71,(.loc 1 9)),(72,(.v v87)),(73,(.v (x66 6))),(74,(.v v88)),(75,(.v v89)),(76,(.v v90)),(77,(.loc 1 9)),(78,(.v v91)),(79,(.v (x66 6))),(80,(.v v92)),(81,(.v v93)),(82,(.v v94)),(83,(.v v95)),(84,(.v v96))]) σ82) σ82 (fun y85 σ86 =>
if true = true then guardG False v79 false (fun J97 =>
oF (vPick (y81 70).pv (y85 84).pv (.bool false)) fun v100 =>
J97 (lookE [(85,(.v v100))]) σ86) σ86 (fun y98 σ99 =>
oF (vPick v79 (.bool true) (y98 85).pv) fun v101 =>
condW v101 (
wkR σ (.int .i64 10) σ99 R) (
oF (vBin none .add (x66 6) (.int .i64 1)) fun v102 =>
packW [(6,v102),(1,(x66 1))] fun x103 => Φ65 x103 σ99)) else False) else False) else False) (pNR R)) (
packW [] fun x106 => J62 x106 σ67)) x107 σ3) (fun x63 σ64 =>
wkR σ (.int .i64 0) σ64 R))
theorem fn67_eq (W : CallP) (a0 : PV) (σ : St) (R : Res → St → Prop) : bodyC (algP W) Tryz.prog annF 67 [a0] σ R = fn67 Tryz.prog W a0 σ R := by kernel_rfl
def fn75 (Pr : Program) (W : CallP) (a0 a1 : PV) (σ : St) (R : Res → St → Prop) : Prop :=
oF (vBin none .geq a0 (.int .i64 0)) fun v0 =>
if true = true then guardG False v0 true (fun J1 =>
oF (vBin none .lss a0 a1) fun v4 =>
J1 (lookE [(8,(.v a0)),(9,(.v a1)),(10,(.v v4))]) σ) σ (fun y2 σ3 =>
oF (vPick v0 (y2 10).pv (.bool false)) fun v5 =>
wkR σ v5 σ3 R) else False
theorem fn75_eq (W : CallP) (a0 a1 : PV) (σ : St) (R : Res → St → Prop) : bodyC (algP W) Tryz.prog annF 75 [a0,a1] σ R = fn75 Tryz.prog W a0 a1 σ R := by kernel_rfl
def fn105 (Pr : Program) (W : CallP) (a0 : PV) (σ : St) (R : Res → St → Prop) : Prop :=
oF (opC.vBoxAny a0) fun z0 =>
oF (vPart false 1 z0.2 0) fun v1 =>
oF (vLen .sl v1 σ) fun v2 =>
oF (vBin none .gtr v2 (.int .i64 1000)) fun v3 =>
wkR σ v3 σ R
theorem fn105_eq (W : CallP) (a0 : PV) (σ : St) (R : Res → St → Prop) : bodyC (algP W) Tryz.prog annF 105 [a0] σ R = fn105 Tryz.prog W a0 σ R := by kernel_rfl
def fn107 (Pr : Program) (W : CallP) (a0 : PV) (σ : St) (R : Res → St → Prop) : Prop :=
oF (opC.vBoxAny a0) fun z0 =>
oF (vPart false 1 z0.2 8) fun v1 =>
oF (vLen .sl v1 σ) fun v2 =>
oF (vBin none .gtr v2 (.int .i64 4000)) fun v3 =>
wkR σ v3 σ R
theorem fn107_eq (W : CallP) (a0 : PV) (σ : St) (R : Res → St → Prop) : bodyC (algP W) Tryz.prog annF 107 [a0] σ R = fn107 Tryz.prog W a0 σ R := by kernel_rfl
def fn109 (Pr : Program) (W : CallP) (a0 : PV) (σ : St) (R : Res → St → Prop) : Prop :=
oF (vLen .str a0 σ) fun v0 =>
oF (vBin none .gtr v0 (.int .i64 65536)) fun v1 =>
wkR σ v1 σ R
theorem fn109_eq (W : CallP) (a0 : PV) (σ : St) (R : Res → St → Prop) : bodyC (algP W) Tryz.prog annF 109 [a0] σ R = fn109 Tryz.prog W a0 σ R := by kernel_rfl
def fn111 (Pr : Program) (W : CallP) (a0 : PV) (σ : St) (R : Res → St → Prop) : Prop :=
oF (vLen .sl a0 σ) fun v0 =>
oF (vBin none .gtr v0 (.int .i64 4000)) fun v1 =>
wkR σ v1 σ R
theorem fn111_eq (W : CallP) (a0 : PV) (σ : St) (R : Res → St → Prop) : bodyC (algP W) Tryz.prog annF 111 [a0] σ R = fn111 Tryz.prog W a0 σ R := by kernel_rfl
def fn112 (Pr : Program) (W : CallP) (a0 a1 : PV) (σ : St) (R : Res → St → Prop) : Prop :=
oF (opC.vBoxAny a0) fun z0 =>
oF (opC.vBoxAny a1) fun z1 =>
oF (vPart false 1 z1.2 0) fun v2 =>
oF (vBin none .eql v2 (.int .i64 2)) fun v3 =>
if true = true then guardG False v3 false (fun J4 =>
oF (vPart false 1 z1.2 0) fun v7 =>
oF (vBin none .eql v7 (.int .i64 3)) fun v8 =>
J4 (lookE [(14,(.loc 3 0)),(15,(.v v7)),(16,(.v v8))]) σ) σ (fun y5 σ6 =>
oF (vPick v3 (.bool true) (y5 16).pv) fun v9 =>
if true = true then guardG False v9 false (fun J10 =>
oF (vPart false 1 z1.2 0) fun v13 =>
oF (vBin none .eql v13 (.int .i64 4)) fun v14 =>
J10 (lookE [(19,(.loc 3 0)),(20,(.v v13)),(21,(.v v14))]) σ6) σ6 (fun y11 σ12 =>
oF (vPick v9 (.bool true) (y11 21).pv) fun v15 =>
oF (vPart false 1 z1.2 0) fun v16 =>
oF (vBin none .eql v16 (.int .i64 9)) fun v17 =>
newMapW σ12 fun v18 σ19 =>
oF (vPart false 1 z0.2 0) fun v20 =>
oF (vLen .sl v20 σ19) fun v21 =>
oF (vMapSet .int v18 (.int .i64 8) v21 σ19) fun σ22 =>
oF (vPart false 1 z0.2 0) fun v23 =>
oF (vLen .sl v23 σ22) fun v24 =>
oF (vMapSet .int v18 (.int .i64 9) v24 σ22) fun σ25 =>
oF (vPart false 1 z0.2 1) fun v26 =>
oF (vLen .sl v26 σ25) fun v27 =>
oF (vMapSet .int v18 (.int .i64 10) v27 σ25) fun σ28 =>
oF (vPart false 1 z0.2 2) fun v29 =>
oF (vLen .sl v29 σ28) fun v30 =>
oF (vMapSet .int v18 (.int .i64 11) v30 σ28) fun σ31 =>
oF (vPart false 1 z1.2 0) fun v32 =>
oF (vLookup .int (.int .i64 0) true v18 v32 σ31) fun v33 =>
oF (vExtract v33 0) fun v34 =>
oF (vExtract v33 1) fun v35 =>
CutW σ (fun J36 =>
oF (vUn .not v35) fun v39 =>
condW v39 (
packW [(5,v15),(6,v17),(8,(.int .i64 1)),(3,z1.2)] fun x40 => J36 x40 σ31) (
packW [(5,v15),(6,v17),(8,v34),(3,z1.2)] fun x41 => J36 x41 σ31)) (fun x37 σ38 =>
oF (vPart false 1 (x37 3) 0) fun v42 =>
oF (vBin none .geq v42 (.int .i64 0)) fun v43 =>
if true = true then guardG False v43 true (fun J44 =>
oF (vPart false 1 (x37 3) 0) fun v47 =>
oF (vBin none .lss v47 (.int .i64 12)) fun v48 =>
J44 (lookE [(57,(.loc 3 0)),(58,(.v v47)),(59,(.v v48))]) σ38) σ38 (fun y45 σ46 =>
oF (vPick v43 (y45 59).pv (.bool false)) fun v49 =>
if true = true then guardG False v49 true (fun J50 =>
oF (vPart false 1 (x37 3) 1) fun v53 =>
oF (vBin none .eql v53 (.int .i64 0)) fun v54 =>
J50 (lookE [(62,(.loc 3 1)),(63,(.v v53)),(64,(.v v54)),(65,(.v v54))]) σ46) σ46 (fun y51 σ52 =>
if true = true then guardG False (y51 65).pv false (fun J55 =>
J55 (lookE [(66,(.v (x37 5))),(67,(.v (x37 5)))]) σ52) σ52 (fun y56 σ57 =>
if true = true then guardG False (y56 67).pv true (fun J58 =>
oF (vPart false 1 (x37 3) 1) fun v61 =>
oF (vBin none .geq v61 (.int .i64 (-1))) fun v62 =>
J58 (lookE [(68,(.loc 3 1)),(69,(.v v61)),(70,(.v v62))]) σ57) σ57 (fun y59 σ60 =>
if true = true then guardG False (y51 65).pv false (fun J63 =>
oF (vPick (y56 67).pv (y59 70).pv (.bool false)) fun v66 =>
J63 (lookE [(71,(.v v66)),(72,(.v v66))]) σ60) σ60 (fun y64 σ65 =>
if true = true then guardG False (y64 72).pv true (fun J67 =>
oF (vPart false 1 (x37 3) 1) fun v70 =>
oF (vBin none .leq v70 (.int .i64 1)) fun v71 =>
J67 (lookE [(73,(.loc 3 1)),(74,(.v v70)),(75,(.v v71))]) σ65) σ65 (fun y68 σ69 =>
if true = true then guardG False (y51 65).pv false (fun J72 =>
oF (vPick (y64 72).pv (y68 75).pv (.bool false)) fun v75 =>
J72 (lookE [(76,(.v v75))]) σ69) σ69 (fun y73 σ74 =>
if true = true then guardG False v49 true (fun J76 =>
oF (vPick (y51 65).pv (.bool true) (y73 76).pv) fun v79 =>
J76 (lookE [(77,(.v v79))]) σ74) σ74 (fun y77 σ78 =>
oF (vPick v49 (y77 77).pv (.bool false)) fun v80 =>
if true = true then guardG False v80 true (fun J81 =>
J81 (lookE [(80,(.v (x37 6))),(81,(.v (x37 6)))]) σ78) σ78 (fun y82 σ83 =>
if true = true then guardG False (y82 81).pv true (fun J84 =>
oF (vPart false 1 (x37 3) 3) fun v87 =>
oF (vBin none .geq v87 (.int .i64 1)) fun v88 =>
J84 (lookE [(82,(.loc 3 3)),(83,(.v v87)),(84,(.v v88))]) σ83) σ83 (fun y85 σ86 =>
if true = true then guardG False v80 true (fun J89 =>
oF (vPick (y82 81).pv (y85 84).pv (.bool false)) fun v92 =>
J89 (lookE [(85,(.v v92)),(86,(.v v92))]) σ86) σ86 (fun y90 σ91 =>
if true = true then guardG False (y90 86).pv true (fun J93 =>
oF (vPart false 1 (x37 3) 3) fun v96 =>
oF (vBin none .leq v96 (.int .i64 3)) fun v97 =>
J93 (lookE [(87,(.loc 3 3)),(88,(.v v96)),(89,(.v v97))]) σ91) σ91 (fun y94 σ95 =>
if true = true then guardG False v80 true (fun J98 =>
oF (vPick (y90 86).pv (y94 89).pv (.bool false)) fun v101 =>
J98 (lookE [(90,(.v v101)),(91,(.v v101))]) σ95) σ95 (fun y99 σ100 =>
if true = true then guardG False (y99 91).pv false (fun J102 =>
oF (vUn .not (x37 6)) fun v105 =>
J102 (lookE [(92,(.v (x37 6))),(93,(.v v105)),(94,(.v v105))]) σ100) σ100 (fun y103 σ104 =>
if true = true then guardG False (y103 94).pv true (fun J106 =>
oF (vPart false 1 (x37 3) 3) fun v109 =>
oF (vBin none .eql v109 (.int .i64 0)) fun v110 =>
J106 (lookE [(95,(.loc 3 3)),(96,(.v v109)),(97,(.v v110))]) σ104) σ104 (fun y107 σ108 =>
if true = true then guardG False (y99 91).pv false (fun J111 =>
oF (vPick (y103 94).pv (y107 97).pv (.bool false)) fun v114 =>
J111 (lookE [(98,(.v v114)),(99,(.v v114))]) σ108) σ108 (fun y112 σ113 =>
if true = true then guardG False (y112 99).pv true (fun J115 =>
oF (vPart false 1 (x37 3) 4) fun v118 =>
oF (vUn .not v118) fun v119 =>
J115 (lookE [(100,(.loc 3 4)),(101,(.v v118)),(102,(.v v119))]) σ113) σ113 (fun y116 σ117 =>
if true = true then guardG False (y99 91).pv false (fun J120 =>
oF (vPick (y112 99).pv (y116 102).pv (.bool false)) fun v123 =>
J120 (lookE [(103,(.v v123))]) σ117) σ117 (fun y121 σ122 =>
if true = true then guardG False v80 true (fun J124 =>
oF (vPick (y99 91).pv (.bool true) (y121 103).pv) fun v127 =>
J124 (lookE [(104,(.v v127))]) σ122) σ122 (fun y125 σ126 =>
oF (vPick v80 (y125 104).pv (.bool false)) fun v128 =>
if true = true then guardG False v128 true (fun J129 =>
oF (vPart false 1 (x37 3) 2) fun v132 =>
callB W 42 [v132,(x37 8)] σ126 (fun v133 σ134 =>
J129 (lookE [(107,(.loc 3 2)),(108,(.v v132)),(109,(.v (x37 8))),(110,(.v v133))]) σ134) (pNR R)) σ126 (fun y130 σ131 =>
oF (vPick v128 (y130 110).pv (.bool false)) fun v137 =>
wkR σ v137 σ131 R) else False) else False) else False) else False) else False) else False) else False) else False) else False) else False) else False) else False) else False) else False) else False) else False) else False) else False) else False) else False)) else False) else False
theorem fn112_eq (W : CallP) (a0 a1 : PV) (σ : St) (R : Res → St → Prop) : bodyC (algP W) Tryz.prog annF 112 [a0,a1] σ R = fn112 Tryz.prog W a0 a1 σ R := by kernel_rfl
def fn114 (Pr : Program) (W : CallP) (a0 a1 : PV) (σ : St) (R : Res → St → Prop) : Prop :=
oF (vField 0 a1) fun v0 =>
oF (vField 0 v0) fun v1 =>
oF (vLoad false 1 v1 σ) fun v2 =>
oF (vLen .sl v2 σ) fun v3 =>
callB W 42 [a0,v3] σ (fun v4 σ5 =>
oF (vUn .not v4) fun v6 =>
wkR σ v6 σ5 R) (pNR R)
theorem fn114_eq (W : CallP) (a0 a1 : PV) (σ : St) (R : Res → St → Prop) : bodyC (algP W) Tryz.prog annF 114 [a0,a1] σ R = fn114 Tryz.prog W a0 a1 σ R := by kernel_rfl
def fn115 (Pr : Program) (W : CallP) (a0 : PV) (σ : St) (R : Res → St → Prop) : Prop :=
oF (vLen .sl a0 σ) fun v0 =>
oF (vBin none .eql v0 (.int .i64 0)) fun v1 =>
wkR σ v1 σ R
theorem fn115_eq (W : CallP) (a0 : PV) (σ : St) (R : Res → St → Prop) : bodyC (algP W) Tryz.prog annF 115 [a0] σ R = fn115 Tryz.prog W a0 σ R := by kernel_rfl
def fn122 (Pr : Program) (W : CallP) (a0 : PV) (σ : St) (R : Res → St → Prop) : Prop :=
CutW σ (fun J0 =>
packW [(0,a0),(3,(.int .i64 0))] fun x15 =>
Lfp σ (fun Φ3 x4 σ5 =>
oF (vLen .sl (x4 0) σ5) fun v6 =>
oF (vBin none .lss (x4 3) v6) fun v7 =>
condW v7 (
oF (vIndex 1 (x4 0) (x4 3)) fun v8 =>
oF (vLoad false 1 v8 σ5) fun v9 =>
oF (vLen .sl v9 σ5) fun v10 =>
oF (vBin none .gtr v10 (.int .i64 4000)) fun v11 =>
condW v11 (
wkR σ (.bool true) σ5 R) (
oF (vBin none .add (x4 3) (.int .i64 1)) fun v12 =>
packW [(0,(x4 0)),(3,v12)] fun x13 => Φ3 x13 σ5)) (
packW [(0,(x4 0))] fun x14 => J0 x14 σ5)) x15 σ) (fun x1 σ2 =>
oF (vLen .sl (x1 0) σ2) fun v16 =>
oF (vBin none .gtr v16 (.int .i64 16384)) fun v17 =>
wkR σ v17 σ2 R)
theorem fn122_eq (W : CallP) (a0 : PV) (σ : St) (R : Res → St → Prop) : bodyC (algP W) Tryz.prog annF 122 [a0] σ R = fn122 Tryz.prog W a0 σ R := by kernel_rfl
def fn123 (Pr : Program) (W : CallP) (a0 a1 : PV) (σ : St) (R : Res → St → Prop) : Prop :=
oF (opC.vBoxAny a0) fun z0 =>
oF (opC.vBoxAny a1) fun z1 =>
oF (vPart false 1 z1.2 0) fun v2 =>
oF (vBin none .eql v2 (.int .i64 2)) fun v3 =>
if true = true then guardG False v3 false (fun J4 =>
oF (vBin none .eql v2 (.int .i64 3)) fun v7 =>
J4 (lookE [(12,(.v v2)),(13,(.v v7))]) σ) σ (fun y5 σ6 =>
oF (vPick v3 (.bool true) (y5 13).pv) fun v8 =>
if true = true then guardG False v8 false (fun J9 =>
oF (vBin none .eql v2 (.int .i64 4)) fun v12 =>
J9 (lookE [(16,(.v v2)),(17,(.v v12))]) σ6) σ6 (fun y10 σ11 =>
oF (vPick v8 (.bool true) (y10 17).pv) fun v13 =>
callB W 75 [v2,(.int .i64 12)] σ11 (fun v14 σ15 =>
oF (vUn .not v14) fun v16 =>
if true = true then guardG False v16 false (fun J17 =>
J17 (lookE [(23,(.v v13)),(24,(.v v13))]) σ15) σ15 (fun y18 σ19 =>
if true = true then guardG False (y18 24).pv true (fun J20 =>
oF (vPart false 1 z1.2 1) fun v23 =>
oF (vBin none .lss v23 (.int .i64 (-1))) fun v24 =>
J20 (lookE [(25,(.loc 3 1)),(26,(.v v23)),(27,(.v v24)),(28,(.v v24))]) σ19) σ19 (fun y21 σ22 =>
if true = true then guardG False (y21 28).pv false (fun J25 =>
oF (vPart false 1 z1.2 1) fun v28 =>
oF (vBin none .gtr v28 (.int .i64 1)) fun v29 =>
J25 (lookE [(29,(.loc 3 1)),(30,(.v v28)),(31,(.v v29))]) σ22) σ22 (fun y26 σ27 =>
if true = true then guardG False (y18 24).pv true (fun J30 =>
oF (vPick (y21 28).pv (.bool true) (y26 31).pv) fun v33 =>
J30 (lookE [(32,(.v v33))]) σ27) σ27 (fun y31 σ32 =>
if true = true then guardG False v16 false (fun J34 =>
oF (vPick (y18 24).pv (y31 32).pv (.bool false)) fun v37 =>
J34 (lookE [(33,(.v v37))]) σ32) σ32 (fun y35 σ36 =>
oF (vPick v16 (.bool true) (y35 33).pv) fun v38 =>
if true = true then guardG False v38 false (fun J39 =>
oF (vUn .not v13) fun v42 =>
J39 (lookE [(36,(.v v13)),(37,(.v v42)),(38,(.v v42))]) σ36) σ36 (fun y40 σ41 =>
if true = true then guardG False (y40 38).pv true (fun J43 =>
oF (vPart false 1 z1.2 1) fun v46 =>
oF (vBin none .neq v46 (.int .i64 0)) fun v47 =>
J43 (lookE [(39,(.loc 3 1)),(40,(.v v46)),(41,(.v v47))]) σ41) σ41 (fun y44 σ45 =>
if true = true then guardG False v38 false (fun J48 =>
oF (vPick (y40 38).pv (y44 41).pv (.bool false)) fun v51 =>
J48 (lookE [(42,(.v v51))]) σ45) σ45 (fun y49 σ50 =>
oF (vPick v38 (.bool true) (y49 42).pv) fun v52 =>
condW v52 (
wkR σ (.bool false) σ50 R) (
oF (vBin none .eql v2 (.int .i64 9)) fun v53 =>
if true = true then guardG False v53 true (fun J54 =>
oF (vPart false 1 z1.2 3) fun v57 =>
oF (vBin none .lss v57 (.int .i64 1)) fun v58 =>
J54 (lookE [(47,(.loc 3 3)),(48,(.v v57)),(49,(.v v58)),(50,(.v v58))]) σ50) σ50 (fun y55 σ56 =>
if true = true then guardG False (y55 50).pv false (fun J59 =>
oF (vPart false 1 z1.2 3) fun v62 =>
oF (vBin none .gtr v62 (.int .i64 3)) fun v63 =>
J59 (lookE [(51,(.loc 3 3)),(52,(.v v62)),(53,(.v v63))]) σ56) σ56 (fun y60 σ61 =>
if true = true then guardG False v53 true (fun J64 =>
oF (vPick (y55 50).pv (.bool true) (y60 53).pv) fun v67 =>
J64 (lookE [(54,(.v v67))]) σ61) σ61 (fun y65 σ66 =>
oF (vPick v53 (y65 54).pv (.bool false)) fun v68 =>
if true = true then guardG False v68 false (fun J69 =>
oF (vBin none .neq v2 (.int .i64 9)) fun v72 =>
J69 (lookE [(57,(.v v2)),(58,(.v v72)),(59,(.v v72))]) σ66) σ66 (fun y70 σ71 =>
if true = true then guardG False (y70 59).pv true (fun J73 =>
oF (vPart false 1 z1.2 3) fun v76 =>
oF (vBin none .neq v76 (.int .i64 0)) fun v77 =>
J73 (lookE [(60,(.loc 3 3)),(61,(.v v76)),(62,(.v v77)),(63,(.v v77))]) σ71) σ71 (fun y74 σ75 =>
if true = true then guardG False (y74 63).pv false (fun J78 =>
oF (vPart false 1 z1.2 4) fun v81 =>
J78 (lookE [(64,(.loc 3 4)),(65,(.v v81))]) σ75) σ75 (fun y79 σ80 =>
if true = true then guardG False (y70 59).pv true (fun J82 =>
oF (vPick (y74 63).pv (.bool true) (y79 65).pv) fun v85 =>
J82 (lookE [(66,(.v v85))]) σ80) σ80 (fun y83 σ84 =>
if true = true then guardG False v68 false (fun J86 =>
oF (vPick (y70 59).pv (y83 66).pv (.bool false)) fun v89 =>
J86 (lookE [(67,(.v v89))]) σ84) σ84 (fun y87 σ88 =>
oF (vPick v68 (.bool true) (y87 67).pv) fun v90 =>
condW v90 (
wkR σ (.bool false) σ88 R) (
CutW σ (fun J91 =>
oF (vBin none .eql v2 (.int .i64 8)) fun v94 =>
condW v94 (
condW v94 (
oF (vPart false 1 z1.2 2) fun v95 =>
oF (vPart false 1 z0.2 0) fun v96 =>
oF (vLen .sl v96 σ88) fun v97 =>
callB W 75 [v95,v97] σ88 (fun v98 σ99 =>
wkR σ v98 σ99 R) (pNR R)) (
oF (vBin none .eql v2 (.int .i64 10)) fun v102 =>
condW v102 (
oF (vPart false 1 z1.2 2) fun v103 =>
oF (vPart false 1 z0.2 1) fun v104 =>
oF (vLen .sl v104 σ88) fun v105 =>
callB W 75 [v103,v105] σ88 (fun v106 σ107 =>
wkR σ v106 σ107 R) (pNR R)) (
oF (vBin none .eql v2 (.int .i64 11)) fun v110 =>
condW v110 (
oF (vPart false 1 z1.2 2) fun v111 =>
oF (vPart false 1 z0.2 2) fun v112 =>
oF (vLen .sl v112 σ88) fun v113 =>
callB W 75 [v111,v113] σ88 (fun v114 σ115 =>
wkR σ v114 σ115 R) (pNR R)) (
packW [(3,z1.2)] fun x118 => J91 x118 σ88)))) (
oF (vBin none .eql v2 (.int .i64 9)) fun v119 =>
condW v119 (
oF (vPart false 1 z1.2 2) fun v120 =>
oF (vPart false 1 z0.2 0) fun v121 =>
oF (vLen .sl v121 σ88) fun v122 =>
callB W 75 [v120,v122] σ88 (fun v123 σ124 =>
wkR σ v123 σ124 R) (pNR R)) (
oF (vBin none .eql v2 (.int .i64 10)) fun v127 =>
condW v127 (
oF (vPart false 1 z1.2 2) fun v128 =>
oF (vPart false 1 z0.2 1) fun v129 =>
oF (vLen .sl v129 σ88) fun v130 =>
callB W 75 [v128,v130] σ88 (fun v131 σ132 =>
wkR σ v131 σ132 R) (pNR R)) (
oF (vBin none .eql v2 (.int .i64 11)) fun v135 =>
condW v135 (
oF (vPart false 1 z1.2 2) fun v136 =>
oF (vPart false 1 z0.2 2) fun v137 =>
oF (vLen .sl v137 σ88) fun v138 =>
callB W 75 [v136,v138] σ88 (fun v139 σ140 =>
wkR σ v139 σ140 R) (pNR R)) (
packW [(3,z1.2)] fun x143 => J91 x143 σ88))))) (fun x92 σ93 =>
oF (vPart false 1 (x92 3) 2) fun v144 =>
oF (vBin none .eql v144 (.int .i64 0)) fun v145 =>
wkR σ v145 σ93 R))) else False) else False) else False) else False) else False) else False) else False) else False)) else False) else False) else False) else False) else False) else False) else False) else False) (pNR R)) else False) else False
theorem fn123_eq (W : CallP) (a0 a1 : PV) (σ : St) (R : Res → St → Prop) : bodyC (algP W) Tryz.prog annF 123 [a0,a1] σ R = fn123 Tryz.prog W a0 a1 σ R := by kernel_rfl
def fn126 (Pr : Program) (W : CallP) (σ : St) (R : Res → St → Prop) : Prop :=
oF (vBuildSl 1 (List.replicate 6 (.str [])) [(0,(.str [112,114,105,110,116])),(1,(.str [114,101,97,100])),(2,(.str [112,114,105,110,116,102])),(3,(.str [114,101,97,100,102])),(4,(.str [112,117,116,98,105,110])),(5,(.str [103,101,116,98,105,110]))]) fun v0 =>
wkR σ (.list .full v0) σ R
theorem fn126_eq (W : CallP) (σ : St) (R : Res → St → Prop) : bodyC (algP W) Tryz.prog annF 126 [] σ R = fn126 Tryz.prog W  σ R := by kernel_rfl
end Go.Proofs.YtgghfcchanilpaaGreatDoor
