import Derived.KernelRfl
import Derived.Test.YtgghfcchanilpaaGreatDoorAnn
import Derived.Test.YtgghfcchanilpaaGreatDoorProg
set_option linter.unusedVariables false
set_option linter.unusedSimpArgs false
namespace Go.Proofs.YtgghfcchanilpaaGreatDoor
open Go Go.Abs
def fn26 (Pr : Program) (W : CallP) (a0 a1 : PV) (σ : St) (R : Res → St → Prop) : Prop :=
oF (opC.vBoxAny a0) fun z0 =>
oF (vPart true 10 z0.2 0) fun v1 =>
callB W 24 [v1] σ (fun v2 σ3 =>
oF (vFieldV false 1 v2 1) fun v4 =>
oF (vBin none .neq v4 (.int .i64 0)) fun v5 =>
condW v5 (
wkR σ (.tuple [(.list .nil []), (.int .i64 2)]) σ3 R) (
oF (vPart false 1 z0.2 4) fun v6 =>
oF (vLen .sl v6 σ3) fun v7 =>
callB W 42 [a1, v7] σ3 (fun v8 σ9 =>
oF (vUn .not v8) fun v10 =>
condW v10 (
wkR σ (.tuple [(.list .nil []), (.int .i64 11)]) σ9 R) (
oF (vPart false 1 z0.2 4) fun v11 =>
oF (vIndex 12 v11 a1) fun v12 =>
oF (vLoad true 12 v12 σ9) fun v13 =>
oF (vPut 12 (.agg [(.int .i64 0), (.int .i64 0), (.int .i64 0), (.int .i64 0), (.int .i64 0), (.int .i64 0), (.int .i64 0), (.int .i64 0), (.int .i64 0), (.int .i64 0), (.int .i64 0), (.int .i64 0)]) 0 v13) fun z14 =>
CutW σ (fun J15 =>
oF (vPart false 1 z14 0) fun v18 =>
oF (vBin none .eql v18 (.int .i64 9)) fun v19 =>
condW v19 (
oF (vPart false 1 z14 11) fun v20 =>
oF (vBuildSl 1 (List.replicate 1 (.int .i64 0)) [(0, v20)]) fun v21 =>
packW [(1, a1), (7, (.list .full v21)), (8, (.bool false)), (2, z0.2)] fun x22 => J15 x22 σ9) (
oF (vBin none .eql v18 (.int .i64 10)) fun v23 =>
condW v23 (
oF (vPart false 1 z14 11) fun v24 =>
oF (vBuildSl 1 (List.replicate 1 (.int .i64 0)) [(0, v24)]) fun v25 =>
packW [(1, a1), (7, (.list .full v25)), (8, (.bool true)), (2, z0.2)] fun x26 => J15 x26 σ9) (
oF (vBin none .eql v18 (.int .i64 11)) fun v27 =>
condW v27 (
condW v27 (
oF (vPart false 1 z0.2 5) fun v28 =>
oF (vPart false 1 z14 11) fun v29 =>
oF (vIndex 1 v28 v29) fun v30 =>
oF (vLoad false 1 v30 σ9) fun v31 =>
callB W 71 [v31] σ9 (fun v32 σ33 =>
packW [(1, a1), (7, v32), (8, (.bool false)), (2, z0.2)] fun x34 => J15 x34 σ33) (pNR R)) (
oF (vBin none .eql v18 (.int .i64 19)) fun v37 =>
condW v37 (
oF (vPart false 1 z0.2 5) fun v38 =>
oF (vPart false 1 z14 11) fun v39 =>
oF (vIndex 1 v38 v39) fun v40 =>
oF (vLoad false 1 v40 σ9) fun v41 =>
callB W 71 [v41] σ9 (fun v42 σ43 =>
packW [(1, a1), (7, v42), (8, (.bool true)), (2, z0.2)] fun x44 => J15 x44 σ43) (pNR R)) (
oF (vBin none .eql v18 (.int .i64 17)) fun v47 =>
condW v47 (
condW v47 (
packW [(1, a1), (7, (.list .nil [])), (8, (.bool false)), (2, z0.2)] fun x48 => J15 x48 σ9) (
oF (vBin none .eql v18 (.int .i64 18)) fun v49 =>
condW v49 (
oF (vPart false 1 z14 3) fun v50 =>
oF (vBin none .eql v50 (.int .i64 0)) fun v51 =>
condW v51 (
oF (vPart false 1 z14 11) fun v52 =>
oF (vBuildSl 1 (List.replicate 1 (.int .i64 0)) [(0, v52)]) fun v53 =>
packW [(1, a1), (7, (.list .full v53)), (8, (.bool false)), (2, z0.2)] fun x54 => J15 x54 σ9) (
packW [(1, a1), (7, (.list .nil [])), (8, (.bool false)), (2, z0.2)] fun x55 => J15 x55 σ9)) (
packW [(1, a1), (7, (.list .nil [])), (8, (.bool true)), (2, z0.2)] fun x56 => J15 x56 σ9))) (
oF (vBin none .eql v18 (.int .i64 20)) fun v57 =>
condW v57 (
packW [(1, a1), (7, (.list .nil [])), (8, (.bool false)), (2, z0.2)] fun x58 => J15 x58 σ9) (
oF (vBin none .eql v18 (.int .i64 18)) fun v59 =>
condW v59 (
oF (vPart false 1 z14 3) fun v60 =>
oF (vBin none .eql v60 (.int .i64 0)) fun v61 =>
condW v61 (
oF (vPart false 1 z14 11) fun v62 =>
oF (vBuildSl 1 (List.replicate 1 (.int .i64 0)) [(0, v62)]) fun v63 =>
packW [(1, a1), (7, (.list .full v63)), (8, (.bool false)), (2, z0.2)] fun x64 => J15 x64 σ9) (
packW [(1, a1), (7, (.list .nil [])), (8, (.bool false)), (2, z0.2)] fun x65 => J15 x65 σ9)) (
packW [(1, a1), (7, (.list .nil [])), (8, (.bool true)), (2, z0.2)] fun x66 => J15 x66 σ9)))))) (
oF (vBin none .eql v18 (.int .i64 12)) fun v67 =>
condW v67 (
oF (vPart false 1 z0.2 5) fun v68 =>
oF (vPart false 1 z14 11) fun v69 =>
oF (vIndex 1 v68 v69) fun v70 =>
oF (vLoad false 1 v70 σ9) fun v71 =>
callB W 71 [v71] σ9 (fun v72 σ73 =>
packW [(1, a1), (7, v72), (8, (.bool false)), (2, z0.2)] fun x74 => J15 x74 σ73) (pNR R)) (
oF (vBin none .eql v18 (.int .i64 19)) fun v77 =>
condW v77 (
oF (vPart false 1 z0.2 5) fun v78 =>
oF (vPart false 1 z14 11) fun v79 =>
oF (vIndex 1 v78 v79) fun v80 =>
oF (vLoad false 1 v80 σ9) fun v81 =>
callB W 71 [v81] σ9 (fun v82 σ83 =>
packW [(1, a1), (7, v82), (8, (.bool true)), (2, z0.2)] fun x84 => J15 x84 σ83) (pNR R)) (
oF (vBin none .eql v18 (.int .i64 17)) fun v87 =>
condW v87 (
condW v87 (
packW [(1, a1), (7, (.list .nil [])), (8, (.bool false)), (2, z0.2)] fun x88 => J15 x88 σ9) (
oF (vBin none .eql v18 (.int .i64 18)) fun v89 =>
condW v89 (
oF (vPart false 1 z14 3) fun v90 =>
oF (vBin none .eql v90 (.int .i64 0)) fun v91 =>
condW v91 (
oF (vPart false 1 z14 11) fun v92 =>
oF (vBuildSl 1 (List.replicate 1 (.int .i64 0)) [(0, v92)]) fun v93 =>
packW [(1, a1), (7, (.list .full v93)), (8, (.bool false)), (2, z0.2)] fun x94 => J15 x94 σ9) (
packW [(1, a1), (7, (.list .nil [])), (8, (.bool false)), (2, z0.2)] fun x95 => J15 x95 σ9)) (
packW [(1, a1), (7, (.list .nil [])), (8, (.bool true)), (2, z0.2)] fun x96 => J15 x96 σ9))) (
oF (vBin none .eql v18 (.int .i64 20)) fun v97 =>
condW v97 (
packW [(1, a1), (7, (.list .nil [])), (8, (.bool false)), (2, z0.2)] fun x98 => J15 x98 σ9) (
oF (vBin none .eql v18 (.int .i64 18)) fun v99 =>
condW v99 (
oF (vPart false 1 z14 3) fun v100 =>
oF (vBin none .eql v100 (.int .i64 0)) fun v101 =>
condW v101 (
oF (vPart false 1 z14 11) fun v102 =>
oF (vBuildSl 1 (List.replicate 1 (.int .i64 0)) [(0, v102)]) fun v103 =>
packW [(1, a1), (7, (.list .full v103)), (8, (.bool false)), (2, z0.2)] fun x104 => J15 x104 σ9) (
packW [(1, a1), (7, (.list .nil [])), (8, (.bool false)), (2, z0.2)] fun x105 => J15 x105 σ9)) (
packW [(1, a1), (7, (.list .nil [])), (8, (.bool true)), (2, z0.2)] fun x106 => J15 x106 σ9))))))))) (fun x16 σ17 =>
oF (vPart true 10 (x16 2) 0) fun v107 =>
oF (vBuild [(.list .nil []), (.list .nil []), (.list .nil []), (.list .nil []), (.list .nil []), (.list .nil []), (.list .nil []), (.list .nil []), (.list .nil []), (.list .nil []), (.int .i64 0), (.int .i64 0)] [(0, 10, v107)]) fun v108 =>
oF (vPut 12 (.agg [(.list .nil []), (.list .nil []), (.list .nil []), (.list .nil []), (.list .nil []), (.list .nil []), (.list .nil []), (.list .nil []), (.list .nil []), (.list .nil []), (.int .i64 0), (.int .i64 0)]) 0 (.agg v108)) fun z109 =>
CutW σ (fun J110 =>
if true = true then guardG False (x16 8) true (fun J113 =>
oF (vBin none .add (x16 1) (.int .i64 1)) fun v116 =>
oF (vPart false 1 (x16 2) 3) fun v117 =>
oF (vPart true 12 z109 0) fun v118 =>
callB W 72 [v118, (x16 1)] σ17 (fun v119 σ120 =>
oF (vIndex 9 v117 v119) fun v121 =>
oF (vField 3 v121) fun v122 =>
oF (vLoad false 1 v122 σ120) fun v123 =>
oF (vBin none .lss v116 v123) fun v124 =>
J113 (lookE [(72, (.v (x16 1))), (73, (.v v116)), (74, (.loc 2 3)), (75, (.v v117)), (76, (.v v118)), (77, (.v (x16 1))), (78, (.v v119)), (79, (.v v121)), (80, (.v v122)), (81, (.v v123)), (82, (.v v124))]) σ120) (pNR R)) σ17 (fun y114 σ115 =>
oF (vPick (x16 8) (y114 82).pv (.bool false)) fun v127 =>
condW v127 (
oF (vBin none .add (x16 1) (.int .i64 1)) fun v128 =>
oF (vBuildSl 1 (List.replicate 1 (.int .i64 0)) [(0, v128)]) fun v129 =>
bindS (vAppend 1 8 (x16 7) (.list .full v129) σ115) fun v130 σ131 =>
packW [(7, v130)] fun x132 => J110 x132 σ131) (
packW [(7, (x16 7))] fun x133 => J110 x133 σ115)) else False) (fun x111 σ112 =>
callB W 73 [(x111 7)] σ112 (fun v134 σ135 =>
callB W 74 [(x111 7)] σ135 (fun v136 σ137 =>
wkR σ (.tuple [v136, (.int .i64 0)]) σ137 R) (pNR R)) (pNR R))))) (pNR R))) (pNR R)
theorem fn26_eq (W : CallP) (a0 a1 : PV) (σ : St) (R : Res → St → Prop) : bodyC (algP W) Tryz.prog annF 26 [a0, a1] σ R = fn26 Tryz.prog W a0 a1 σ R := by kernel_rfl
def fn27 (Pr : Program) (W : CallP) (a0 a1 : PV) (σ : St) (R : Res → St → Prop) : Prop :=
oF (opC.vBoxAny a0) fun z0 =>
oF (vPart true 10 z0.2 0) fun v1 =>
callB W 25 [v1] σ (fun v2 σ3 =>
oF (vFieldV false 1 v2 1) fun v4 =>
oF (vBin none .neq v4 (.int .i64 0)) fun v5 =>
condW v5 (
wkR σ (.tuple [(.list .nil []), (.int .i64 2)]) σ3 R) (
oF (vPart false 1 z0.2 4) fun v6 =>
oF (vLen .sl v6 σ3) fun v7 =>
callB W 75 [a1, v7] σ3 (fun v8 σ9 =>
oF (vUn .not v8) fun v10 =>
condW v10 (
wkR σ (.tuple [(.list .nil []), (.int .i64 11)]) σ9 R) (
oF (vPart true 10 z0.2 0) fun v11 =>
callB W 76 [v11, a1] σ9 (fun v12 σ13 =>
wkR σ (.tuple [v12, (.int .i64 0)]) σ13 R) (pNR R))) (pNR R))) (pNR R)
theorem fn27_eq (W : CallP) (a0 a1 : PV) (σ : St) (R : Res → St → Prop) : bodyC (algP W) Tryz.prog annF 27 [a0, a1] σ R = fn27 Tryz.prog W a0 a1 σ R := by kernel_rfl
def fn28 (Pr : Program) (W : CallP) (a0 a1 : PV) (σ : St) (R : Res → St → Prop) : Prop :=
oF (vLen .sl a0 σ) fun v0 =>
oF (vLen .sl a1 σ) fun v1 =>
oF (vBin none .neq v0 v1) fun v2 =>
condW v2 (
wkR σ (.bool false) σ R) (
CutW σ (fun J3 =>
packW [(0, a0), (1, a1), (5, (.int .i64 0))] fun x19 =>
Lfp σ (fun Φ6 x7 σ8 =>
oF (vLen .sl (x7 0) σ8) fun v9 =>
oF (vBin none .lss (x7 5) v9) fun v10 =>
condW v10 (
oF (vIndex 1 (x7 0) (x7 5)) fun v11 =>
oF (vLoad false 1 v11 σ8) fun v12 =>
oF (vIndex 1 (x7 1) (x7 5)) fun v13 =>
oF (vLoad false 1 v13 σ8) fun v14 =>
oF (vBin none .neq v12 v14) fun v15 =>
condW v15 (
wkR σ (.bool false) σ8 R) (
oF (vBin none .add (x7 5) (.int .i64 1)) fun v16 =>
packW [(0, (x7 0)), (1, (x7 1)), (5, v16)] fun x17 => Φ6 x17 σ8)) (
packW [] fun x18 => J3 x18 σ8)) x19 σ) (fun x4 σ5 =>
wkR σ (.bool true) σ5 R))
theorem fn28_eq (W : CallP) (a0 a1 : PV) (σ : St) (R : Res → St → Prop) : bodyC (algP W) Tryz.prog annF 28 [a0, a1] σ R = fn28 Tryz.prog W a0 a1 σ R := by kernel_rfl
def fn76 (Pr : Program) (W : CallP) (a0 a1 : PV) (σ : St) (R : Res → St → Prop) : Prop :=
oF (opC.vBoxAny a0) fun z0 =>
oF (vPart false 1 z0.2 4) fun v1 =>
oF (vIndex 12 v1 a1) fun v2 =>
oF (vLoad true 12 v2 σ) fun v3 =>
oF (vPut 12 (.agg [(.int .i64 0), (.int .i64 0), (.int .i64 0), (.int .i64 0), (.int .i64 0), (.int .i64 0), (.int .i64 0), (.int .i64 0), (.int .i64 0), (.int .i64 0), (.int .i64 0), (.int .i64 0)]) 0 v3) fun z4 =>
CutW σ (fun J5 =>
oF (vPart false 1 z4 0) fun v8 =>
callB W 18 [v8] σ (fun v9 σ10 =>
oF (vStrAt v9 (.int .i64 4)) fun v11 =>
oF (vBin none .eql v11 (.int .u8 99)) fun v12 =>
condW v12 (
packW [(1, a1), (6, (.list .nil [])), (7, (.int .i64 0)), (2, z0.2), (5, z4)] fun x35 =>
Lfp σ (fun Φ13 x14 σ15 =>
oF (vPart false 1 (x14 2) 5) fun v16 =>
oF (vPart false 1 (x14 5) 11) fun v17 =>
oF (vIndex 1 v16 v17) fun v18 =>
oF (vLoad false 1 v18 σ15) fun v19 =>
oF (vLen .sl v19 σ15) fun v20 =>
oF (vBin none .lss (x14 7) v20) fun v21 =>
condW v21 (
oF (vPart false 1 (x14 2) 5) fun v22 =>
oF (vPart false 1 (x14 5) 11) fun v23 =>
oF (vIndex 1 v22 v23) fun v24 =>
oF (vLoad false 1 v24 σ15) fun v25 =>
oF (vIndex 1 v25 (x14 7)) fun v26 =>
oF (vLoad false 1 v26 σ15) fun v27 =>
callB W 140 [(x14 6), v27] σ15 (fun v28 σ29 =>
oF (vBin none .add (x14 7) (.int .i64 1)) fun v30 =>
packW [(1, (x14 1)), (6, v28), (7, v30), (2, (x14 2)), (5, (x14 5))] fun x31 => Φ13 x31 σ29) (pNR R)) (
packW [(1, (x14 1)), (6, (x14 6)), (2, (x14 2)), (5, (x14 5))] fun x34 => J5 x34 σ15)) x35 σ10) (
packW [(1, a1), (6, (.list .nil [])), (2, z0.2), (5, z4)] fun x36 => J5 x36 σ10)) (pNR R)) (fun x6 σ7 =>
CutW σ (fun J39 =>
oF (vPart false 1 (x6 5) 0) fun v42 =>
oF (vBin none .eql v42 (.int .i64 9)) fun v43 =>
condW v43 (
condW v43 (
oF (vPart false 1 (x6 5) 11) fun v44 =>
callB W 140 [(x6 6), v44] σ7 (fun v45 σ46 =>
packW [(1, (x6 1)), (6, v45), (2, (x6 2)), (5, (x6 5))] fun x47 => J39 x47 σ46) (pNR R)) (
oF (vBin none .eql v42 (.int .i64 18)) fun v50 =>
condW v50 (
oF (vPart false 1 (x6 5) 3) fun v51 =>
oF (vBin none .eql v51 (.int .i64 0)) fun v52 =>
condW v52 (
oF (vPart false 1 (x6 5) 11) fun v53 =>
callB W 140 [(x6 6), v53] σ7 (fun v54 σ55 =>
packW [(1, (x6 1)), (6, v54), (2, (x6 2)), (5, (x6 5))] fun x56 => J39 x56 σ55) (pNR R)) (
packW [(1, (x6 1)), (6, (x6 6)), (2, (x6 2)), (5, (x6 5))] fun x59 => J39 x59 σ7)) (
packW [(1, (x6 1)), (6, (x6 6)), (2, (x6 2)), (5, (x6 5))] fun x60 => J39 x60 σ7))) (
oF (vBin none .eql v42 (.int .i64 10)) fun v61 =>
condW v61 (
oF (vPart false 1 (x6 5) 11) fun v62 =>
callB W 140 [(x6 6), v62] σ7 (fun v63 σ64 =>
packW [(1, (x6 1)), (6, v63), (2, (x6 2)), (5, (x6 5))] fun x65 => J39 x65 σ64) (pNR R)) (
oF (vBin none .eql v42 (.int .i64 18)) fun v68 =>
condW v68 (
oF (vPart false 1 (x6 5) 3) fun v69 =>
oF (vBin none .eql v69 (.int .i64 0)) fun v70 =>
condW v70 (
oF (vPart false 1 (x6 5) 11) fun v71 =>
callB W 140 [(x6 6), v71] σ7 (fun v72 σ73 =>
packW [(1, (x6 1)), (6, v72), (2, (x6 2)), (5, (x6 5))] fun x74 => J39 x74 σ73) (pNR R)) (
packW [(1, (x6 1)), (6, (x6 6)), (2, (x6 2)), (5, (x6 5))] fun x77 => J39 x77 σ7)) (
packW [(1, (x6 1)), (6, (x6 6)), (2, (x6 2)), (5, (x6 5))] fun x78 => J39 x78 σ7)))) (fun x40 σ41 =>
oF (vPart false 1 (x40 5) 0) fun v79 =>
oF (vBin none .neq v79 (.int .i64 9)) fun v80 =>
if true = true then guardG False v80 true (fun J81 =>
oF (vPart false 1 (x40 5) 0) fun v84 =>
oF (vBin none .neq v84 (.int .i64 11)) fun v85 =>
J81 (lookE [(64, (.loc 5 0)), (65, (.v v84)), (66, (.v v85))]) σ41) σ41 (fun y82 σ83 =>
oF (vPick v80 (y82 66).pv (.bool false)) fun v86 =>
if true = true then guardG False v86 true (fun J87 =>
oF (vPart false 1 (x40 5) 0) fun v90 =>
oF (vBin none .neq v90 (.int .i64 12)) fun v91 =>
J87 (lookE [(69, (.loc 5 0)), (70, (.v v90)), (71, (.v v91))]) σ83) σ83 (fun y88 σ89 =>
oF (vPick v86 (y88 71).pv (.bool false)) fun v92 =>
if true = true then guardG False v92 true (fun J93 =>
oF (vPart false 1 (x40 5) 0) fun v96 =>
oF (vBin none .neq v96 (.int .i64 17)) fun v97 =>
J93 (lookE [(74, (.loc 5 0)), (75, (.v v96)), (76, (.v v97))]) σ89) σ89 (fun y94 σ95 =>
oF (vPick v92 (y94 76).pv (.bool false)) fun v98 =>
if true = true then guardG False v98 true (fun J99 =>
oF (vPart false 1 (x40 5) 0) fun v102 =>
oF (vBin none .neq v102 (.int .i64 20)) fun v103 =>
J99 (lookE [(79, (.loc 5 0)), (80, (.v v102)), (81, (.v v103))]) σ95) σ95 (fun y100 σ101 =>
oF (vPick v98 (y100 81).pv (.bool false)) fun v104 =>
if true = true then guardG False v104 true (fun J105 =>
oF (vPart false 1 (x40 5) 0) fun v108 =>
oF (vBin none .neq v108 (.int .i64 18)) fun v109 =>
J105 (lookE [(84, (.loc 5 0)), (85, (.v v108)), (86, (.v v109))]) σ101) σ101 (fun y106 σ107 =>
oF (vPick v104 (y106 86).pv (.bool false)) fun v110 =>
CutW σ (fun J111 =>
if true = true then guardG False v110 true (fun J114 =>
oF (vPart true 10 (x40 2) 0) fun v117 =>
oF (vPart true 10 (x40 2) 0) fun v118 =>
oF (vBin none .add (x40 1) (.int .i64 1)) fun v119 =>
callB W 141 [v118, (x40 1)] σ107 (fun v120 σ121 =>
callB W 135 [v117, v120, v119] σ121 (fun v122 σ123 =>
J114 (lookE [(90, (.v v117)), (91, (.v v118)), (92, (.v (x40 1))), (94, (.v (x40 1))), (95, (.v v119)), (93, (.v v120)), (96, (.v v122))]) σ123) (pNR R)) (pNR R)) σ107 (fun y115 σ116 =>
oF (vPick v110 (y115 96).pv (.bool false)) fun v128 =>
condW v128 (
oF (vBin none .add (x40 1) (.int .i64 1)) fun v129 =>
callB W 140 [(x40 6), v129] σ116 (fun v130 σ131 =>
packW [(6, v130)] fun x132 => J111 x132 σ131) (pNR R)) (
packW [(6, (x40 6))] fun x135 => J111 x135 σ116)) else False) (fun x112 σ113 =>
wkR σ (x112 6) σ113 R)) else False) else False) else False) else False) else False))
theorem fn76_eq (W : CallP) (a0 a1 : PV) (σ : St) (R : Res → St → Prop) : bodyC (algP W) Tryz.prog annF 76 [a0, a1] σ R = fn76 Tryz.prog W a0 a1 σ R := by kernel_rfl
def fn140 (Pr : Program) (W : CallP) (a0 a1 : PV) (σ : St) (R : Res → St → Prop) : Prop :=
CutW σ (fun J0 =>
packW [(0, a0), (1, a1), (5, (.list .nil [])), (6, (.bool false)), (7, (.int .i64 0))] fun x40 =>
Lfp σ (fun Φ3 x4 σ5 =>
oF (vLen .sl (x4 0) σ5) fun v6 =>
oF (vBin none .lss (x4 7) v6) fun v7 =>
condW v7 (
CutW σ (fun J8 =>
CutW σ (fun J11 =>
oF (vUn .not (x4 6)) fun v14 =>
if true = true then guardG False v14 true (fun J15 =>
oF (vIndex 1 (x4 0) (x4 7)) fun v18 =>
oF (vLoad false 1 v18 σ5) fun v19 =>
oF (vBin none .leq (x4 1) v19) fun v20 =>
J15 (lookE [(17, (.v (x4 1))), (18, (.v (x4 0))), (19, (.v (x4 7))), (20, (.v v18)), (21, (.v v19)), (22, (.v v20))]) σ5) σ5 (fun y16 σ17 =>
oF (vPick v14 (y16 22).pv (.bool false)) fun v21 =>
condW v21 (
oF (vBuildSl 1 (List.replicate 1 (.int .i64 0)) [(0, (x4 1))]) fun v22 =>
bindS (vAppend 1 8 (x4 5) (.list .full v22) σ17) fun v23 σ24 =>
packW [(0, (x4 0)), (1, (x4 1)), (5, v23), (6, (.bool true)), (7, (x4 7))] fun x25 => J11 x25 σ24) (
packW [(0, (x4 0)), (1, (x4 1)), (5, (x4 5)), (6, (x4 6)), (7, (x4 7))] fun x26 => J11 x26 σ17)) else False) (fun x12 σ13 =>
oF (vIndex 1 (x12 0) (x12 7)) fun v27 =>
oF (vLoad false 1 v27 σ13) fun v28 =>
oF (vBin none .neq v28 (x12 1)) fun v29 =>
condW v29 (
oF (vIndex 1 (x12 0) (x12 7)) fun v30 =>
oF (vLoad false 1 v30 σ13) fun v31 =>
oF (vBuildSl 1 (List.replicate 1 (.int .i64 0)) [(0, v31)]) fun v32 =>
bindS (vAppend 1 8 (x12 5) (.list .full v32) σ13) fun v33 σ34 =>
packW [(0, (x12 0)), (1, (x12 1)), (5, v33), (6, (x12 6)), (7, (x12 7))] fun x35 => J8 x35 σ34) (
packW [(0, (x12 0)), (1, (x12 1)), (5, (x12 5)), (6, (x12 6)), (7, (x12 7))] fun x36 => J8 x36 σ13))) (fun x9 σ10 =>
oF (vBin none .add (x9 7) (.int .i64 1)) fun v37 =>
packW [(0, (x9 0)), (1, (x9 1)), (5, (x9 5)), (6, (x9 6)), (7, v37)] fun x38 => Φ3 x38 σ10)) (
packW [(1, (x4 1)), (5, (x4 5)), (6, (x4 6))] fun x39 => J0 x39 σ5)) x40 σ) (fun x1 σ2 =>
CutW σ (fun J41 =>
oF (vUn .not (x1 6)) fun v44 =>
condW v44 (
oF (vBuildSl 1 (List.replicate 1 (.int .i64 0)) [(0, (x1 1))]) fun v45 =>
bindS (vAppend 1 8 (x1 5) (.list .full v45) σ2) fun v46 σ47 =>
packW [(5, v46)] fun x48 => J41 x48 σ47) (
packW [(5, (x1 5))] fun x49 => J41 x49 σ2)) (fun x42 σ43 =>
wkR σ (x42 5) σ43 R))
theorem fn140_eq (W : CallP) (a0 a1 : PV) (σ : St) (R : Res → St → Prop) : bodyC (algP W) Tryz.prog annF 140 [a0, a1] σ R = fn140 Tryz.prog W a0 a1 σ R := by kernel_rfl
def fn7 (Pr : Program) (W : CallP) (a0 a1 : PV) (σ : St) (R : Res → St → Prop) : Prop :=
oF (opC.vBoxAny a0) fun z0 =>
callB W 12 [] σ (fun v1 σ2 =>
oF (vUn .not v1) fun v3 =>
if true = true then guardG False v3 false (fun J4 =>
oF (vPart true 10 z0.2 0) fun v7 =>
callB W 23 [v7] σ2 (fun v8 σ9 =>
oF (vUn .not v8) fun v10 =>
J4 (lookE [(12, (.v v7)), (13, (.v v8)), (14, (.v v10))]) σ9) (pNR R)) σ2 (fun y5 σ6 =>
oF (vPick v3 (.bool true) (y5 14).pv) fun v13 =>
condW v13 (
callB W 12 [] σ6 (fun v14 σ15 =>
wkR σ v14 σ15 R) (pNR R)) (
oF (vPart true 10 z0.2 0) fun v18 =>
callB W 26 [v18, a1] σ6 (fun v19 σ20 =>
oF (vExtract v19 0) fun v21 =>
oF (vExtract v19 1) fun v22 =>
oF (vPart true 10 z0.2 0) fun v23 =>
callB W 27 [v23, a1] σ20 (fun v24 σ25 =>
oF (vExtract v24 0) fun v26 =>
oF (vExtract v24 1) fun v27 =>
oF (vBin none .eql v22 v27) fun v28 =>
if true = true then guardG False v28 true (fun J29 =>
callB W 28 [v21, v26] σ25 (fun v32 σ33 =>
J29 (lookE [(33, (.v v21)), (34, (.v v26)), (35, (.v v32))]) σ33) (pNR R)) σ25 (fun y30 σ31 =>
oF (vPick v28 (y30 35).pv (.bool false)) fun v36 =>
wkR σ v36 σ31 R) else False) (pNR R)) (pNR R))) else False) (pNR R)
theorem fn7_eq (W : CallP) (a0 a1 : PV) (σ : St) (R : Res → St → Prop) : bodyC (algP W) Tryz.prog annF 7 [a0, a1] σ R = fn7 Tryz.prog W a0 a1 σ R := by kernel_rfl
end Go.Proofs.YtgghfcchanilpaaGreatDoor
