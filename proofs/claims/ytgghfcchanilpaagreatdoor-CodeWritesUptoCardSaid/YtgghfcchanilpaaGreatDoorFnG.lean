import Derived.KernelRfl
import Derived.Test.YtgghfcchanilpaaGreatDoorAnn
import Derived.Test.YtgghfcchanilpaaGreatDoorProg
set_option linter.unusedVariables false
set_option linter.unusedSimpArgs false
namespace Go.Proofs.YtgghfcchanilpaaGreatDoor
open Go Go.Abs
def fn8 (Pr : Program) (W : CallP) (a0 : PV) (σ : St) (R : Res → St → Prop) : Prop :=
oF (opC.vBoxAny a0) fun z0 =>
callB W 12 [] σ (fun v1 σ2 =>
oF (vUn .not v1) fun v3 =>
if true = true then guardG False v3 false (fun J4 =>
oF (vPart true 10 z0.2 0) fun v7 =>
callB W 23 [v7] σ2 (fun v8 σ9 =>
oF (vUn .not v8) fun v10 =>
J4 (lookE [(10,(.v v7)),(11,(.v v8)),(12,(.v v10))]) σ9) (pNR R)) σ2 (fun y5 σ6 =>
oF (vPick v3 (.bool true) (y5 12).pv) fun v13 =>
condW v13 (
callB W 12 [] σ6 (fun v14 σ15 =>
wkR σ v14 σ15 R) (pNR R)) (
oF (vPart true 10 z0.2 0) fun v18 =>
callB W 29 [v18] σ6 (fun v19 σ20 =>
oF (vExtract v19 0) fun v21 =>
oF (vExtract v19 1) fun v22 =>
oF (vPart true 10 z0.2 0) fun v23 =>
callB W 30 [v23] σ20 (fun v24 σ25 =>
oF (vExtract v24 0) fun v26 =>
oF (vExtract v24 1) fun v27 =>
oF (vBin none .eql v21 v26) fun v28 =>
if true = true then guardG False v28 true (fun J29 =>
oF (vBin none .eql v22 v27) fun v32 =>
J29 (lookE [(29,(.v v22)),(30,(.v v27)),(31,(.v v32))]) σ25) σ25 (fun y30 σ31 =>
oF (vPick v28 (y30 31).pv (.bool false)) fun v33 =>
wkR σ v33 σ31 R) else False) (pNR R)) (pNR R))) else False) (pNR R)
theorem fn8_eq (W : CallP) (a0 : PV) (σ : St) (R : Res → St → Prop) : bodyC (algP W) Tryz.prog annF 8 [a0] σ R = fn8 Tryz.prog W a0 σ R := by kernel_rfl
def fn29 (Pr : Program) (W : CallP) (a0 : PV) (σ : St) (R : Res → St → Prop) : Prop :=
oF (opC.vBoxAny a0) fun z0 =>
oF (vPart true 10 z0.2 0) fun v1 =>
callB W 24 [v1] σ (fun v2 σ3 =>
oF (vPut 2 (.agg [(.int .i64 0),(.int .i64 0)]) 0 v2) fun z4 =>
oF (vPart false 1 z4 1) fun v5 =>
oF (vBin none .neq v5 (.int .i64 0)) fun v6 =>
condW v6 (
oF (vPart false 1 z4 1) fun v7 =>
wkR σ (.tuple [(.str []),v7]) σ3 R) (
oF (vBuildSl 1 (List.replicate 4 (.int .u8 0)) [(0,(.int .u8 69)),(1,(.int .u8 78)),(2,(.int .u8 86)),(3,(.int .u8 49))]) fun v8 =>
markW (.list .full v8) fun v9 =>
oF (vBuild [(.list .nil [])] [(0,1,(.list .full v9))]) fun v10 =>
oF (opC.vBoxAny (.agg v10)) fun z11 =>
if 0 < z11.1 then newW z11.1 z11.2 σ3 fun p12 σ13 =>
oF (vPart true 10 z0.2 0) fun v14 =>
callB W 77 [p12,v14] σ13 (fun v15 σ16 =>
oF (vNil p12) fun v17 =>
oF (vField 0 v17) fun v18 =>
oF (vLoad false 1 v18 σ16) fun v19 =>
oF (vNil p12) fun v20 =>
oF (vField 0 v20) fun v21 =>
oF (vLoad false 1 v21 σ16) fun v22 =>
callC W 79 [v22] σ16 fun v23 _ =>
callC W 78 [v23] σ16 fun v24 _ =>
bindS (vAppendT 23 1 1 v19 v24 σ16) fun v25 σ26 =>
oF (vNil p12) fun v27 =>
oF (vField 0 v27) fun v28 =>
oF (vStore 1 v28 v25 σ26) fun σ29 =>
oF (vNil p12) fun v30 =>
oF (vField 0 v30) fun v31 =>
oF (vLoad false 1 v31 σ29) fun v32 =>
oF (vLen .sl v32 σ29) fun v33 =>
oF (vBin none .gtr v33 (.int .i64 1048576)) fun v34 =>
condW v34 (
wkR σ (.tuple [(.str []),(.int .i64 3)]) σ29 R) (
oF (vNil p12) fun v35 =>
oF (vField 0 v35) fun v36 =>
oF (vLoad false 1 v36 σ29) fun v37 =>
oF (vToStr v37 σ29) fun v38 =>
wkR σ (.tuple [v38,(.int .i64 0)]) σ29 R)) (pNR R) else False)) (pNR R)
theorem fn29_eq (W : CallP) (a0 : PV) (σ : St) (R : Res → St → Prop) : bodyC (algP W) Tryz.prog annF 29 [a0] σ R = fn29 Tryz.prog W a0 σ R := by kernel_rfl
def fn30 (Pr : Program) (W : CallP) (a0 : PV) (σ : St) (R : Res → St → Prop) : Prop :=
oF (opC.vBoxAny a0) fun z0 =>
oF (vPart true 10 z0.2 0) fun v1 =>
callB W 25 [v1] σ (fun v2 σ3 =>
oF (vPut 2 (.agg [(.int .i64 0),(.int .i64 0)]) 0 v2) fun z4 =>
oF (vPart false 1 z4 1) fun v5 =>
oF (vBin none .neq v5 (.int .i64 0)) fun v6 =>
condW v6 (
oF (vPart false 1 z4 1) fun v7 =>
wkR σ (.tuple [(.str []),v7]) σ3 R) (
oF (vPart true 10 z0.2 0) fun v8 =>
callB W 80 [v8] σ3 (fun v9 σ10 =>
oF (vToStr v9 σ10) fun v11 =>
oF (vBin none .add (.str [69,78,86,49]) v11) fun v12 =>
callB W 31 [v12] σ10 (fun v13 σ14 =>
oF (vConv .u8 v13) fun v15 =>
oF (vBin none .shr v13 (.int .u64 8)) fun v16 =>
oF (vConv .u8 v16) fun v17 =>
oF (vBin none .shr v13 (.int .u64 16)) fun v18 =>
oF (vConv .u8 v18) fun v19 =>
oF (vBin none .shr v13 (.int .u64 24)) fun v20 =>
oF (vConv .u8 v20) fun v21 =>
oF (vBuildSl 1 (List.replicate 4 (.int .u8 0)) [(0,v15),(1,v17),(2,v19),(3,v21)]) fun v22 =>
oF (vToStr (.list .full v22) σ14) fun v23 =>
oF (vBin none .add v12 v23) fun v24 =>
oF (vLen .str v24 σ14) fun v25 =>
oF (vBin none .gtr v25 (.int .i64 1048576)) fun v26 =>
condW v26 (
wkR σ (.tuple [(.str []),(.int .i64 3)]) σ14 R) (
wkR σ (.tuple [v24,(.int .i64 0)]) σ14 R)) (pNR R)) (pNR R))) (pNR R)
theorem fn30_eq (W : CallP) (a0 : PV) (σ : St) (R : Res → St → Prop) : bodyC (algP W) Tryz.prog annF 30 [a0] σ R = fn30 Tryz.prog W a0 σ R := by kernel_rfl
def fn31 (Pr : Program) (W : CallP) (a0 : PV) (σ : St) (R : Res → St → Prop) : Prop :=
CutW σ (fun J0 =>
packW [(0,a0),(3,(.int .u32 2166136261)),(4,(.int .i64 0))] fun x15 =>
Lfp σ (fun Φ3 x4 σ5 =>
oF (vLen .str (x4 0) σ5) fun v6 =>
oF (vBin none .lss (x4 4) v6) fun v7 =>
condW v7 (
oF (vStrAt (x4 0) (x4 4)) fun v8 =>
oF (vConv .u32 v8) fun v9 =>
oF (vBin none .xor (x4 3) v9) fun v10 =>
oF (vBin none .mul v10 (.int .u32 16777619)) fun v11 =>
oF (vBin none .add (x4 4) (.int .i64 1)) fun v12 =>
packW [(0,(x4 0)),(3,v11),(4,v12)] fun x13 => Φ3 x13 σ5) (
packW [(3,(x4 3))] fun x14 => J0 x14 σ5)) x15 σ) (fun x1 σ2 =>
wkR σ (x1 3) σ2 R)
theorem fn31_eq (W : CallP) (a0 : PV) (σ : St) (R : Res → St → Prop) : bodyC (algP W) Tryz.prog annF 31 [a0] σ R = fn31 Tryz.prog W a0 σ R := by kernel_rfl
def fn77 (Pr : Program) (W : CallP) (a0 a1 : PV) (σ : St) (R : Res → St → Prop) : Prop :=
oF (opC.vBoxAny a0) fun z0 =>
if 0 < z0.1 then newW z0.1 z0.2 σ fun p1 σ2 =>
oF (opC.vBoxAny a1) fun z3 =>
oF (vLoad false 1 p1 σ2) fun v4 =>
oF (vPart false 1 z3.2 0) fun v5 =>
callB W 142 [v4,v5,(.func 143 0 [p1])] σ2 (fun v6 σ7 =>
oF (vLoad false 1 p1 σ7) fun v8 =>
oF (vPart false 1 z3.2 1) fun v9 =>
oF (vLoad false 1 p1 σ7) fun v10 =>
callB W 146 [v8,v9,(.func 147 1 [v10])] σ7 (fun v11 σ12 =>
oF (vLoad false 1 p1 σ12) fun v13 =>
oF (vPart false 1 z3.2 2) fun v14 =>
callB W 148 [v13,v14,(.func 149 0 [p1])] σ12 (fun v15 σ16 =>
oF (vLoad false 1 p1 σ16) fun v17 =>
oF (vPart false 1 z3.2 3) fun v18 =>
oF (vLoad false 1 p1 σ16) fun v19 =>
callB W 151 [v17,v18,(.func 152 1 [v19])] σ16 (fun v20 σ21 =>
oF (vLoad false 1 p1 σ21) fun v22 =>
oF (vPart false 1 z3.2 4) fun v23 =>
oF (vLoad false 1 p1 σ21) fun v24 =>
callB W 153 [v22,v23,(.func 154 1 [v24])] σ21 (fun v25 σ26 =>
oF (vLoad false 1 p1 σ26) fun v27 =>
oF (vPart false 1 z3.2 5) fun v28 =>
oF (vLoad false 1 p1 σ26) fun v29 =>
callB W 146 [v27,v28,(.func 147 1 [v29])] σ26 (fun v30 σ31 =>
oF (vLoad false 1 p1 σ31) fun v32 =>
oF (vPart false 1 z3.2 6) fun v33 =>
oF (vLoad false 1 p1 σ31) fun v34 =>
callB W 146 [v32,v33,(.func 147 1 [v34])] σ31 (fun v35 σ36 =>
oF (vLoad false 1 p1 σ36) fun v37 =>
oF (vPart false 1 z3.2 7) fun v38 =>
oF (vLoad false 1 p1 σ36) fun v39 =>
callB W 155 [v37,v38,(.func 156 1 [v39])] σ36 (fun v40 σ41 =>
oF (vLoad false 1 p1 σ41) fun v42 =>
oF (vPart false 1 z3.2 8) fun v43 =>
callB W 157 [v42,v43,(.func 158 0 [p1])] σ41 (fun v44 σ45 =>
oF (vLoad false 1 p1 σ45) fun v46 =>
oF (vPart false 1 z3.2 9) fun v47 =>
callB W 160 [v46,v47,(.func 161 0 [p1])] σ45 (fun v48 σ49 =>
wkR σ (.tuple []) σ49 R) (pNR R)) (pNR R)) (pNR R)) (pNR R)) (pNR R)) (pNR R)) (pNR R)) (pNR R)) (pNR R)) (pNR R) else False
theorem fn77_eq (W : CallP) (a0 a1 : PV) (σ : St) (R : Res → St → Prop) : bodyC (algP W) Tryz.prog annF 77 [a0,a1] σ R = fn77 Tryz.prog W a0 a1 σ R := by kernel_rfl
def fn78 (Pr : Program) (W : CallP) (a0 : PV) (σ : St) (R : Res → St → Prop) : Prop :=
oF (vConv .u8 a0) fun v0 =>
oF (vBin none .shr a0 (.int .u64 8)) fun v1 =>
oF (vConv .u8 v1) fun v2 =>
oF (vBin none .shr a0 (.int .u64 16)) fun v3 =>
oF (vConv .u8 v3) fun v4 =>
oF (vBin none .shr a0 (.int .u64 24)) fun v5 =>
oF (vConv .u8 v5) fun v6 =>
oF (vBuildSl 1 (List.replicate 4 (.int .u8 0)) [(0,v0),(1,v2),(2,v4),(3,v6)]) fun v7 =>
wkR σ (.list .full v7) σ R
theorem fn78_eq (W : CallP) (a0 : PV) (σ : St) (R : Res → St → Prop) : bodyC (algP W) Tryz.prog annF 78 [a0] σ R = fn78 Tryz.prog W a0 σ R := by kernel_rfl
def fn79 (Pr : Program) (W : CallP) (a0 : PV) (σ : St) (R : Res → St → Prop) : Prop :=
CutW σ (fun J0 =>
oF (vLen .sl a0 σ) fun v3 =>
packW [(3,(.int .u32 2166136261)),(6,a0),(7,v3),(8,(.int .i64 0))] fun x16 =>
Lfp σ (fun Φ4 x5 σ6 =>
oF (vBin none .lss (x5 8) (x5 7)) fun v7 =>
condW v7 (
oF (vIndex 1 (x5 6) (x5 8)) fun v8 =>
oF (vLoad false 1 v8 σ6) fun v9 =>
oF (vConv .u32 v9) fun v10 =>
oF (vBin none .xor (x5 3) v10) fun v11 =>
oF (vBin none .mul v11 (.int .u32 16777619)) fun v12 =>
oF (vBin none .add (x5 8) (.int .i64 1)) fun v13 =>
packW [(3,v12),(6,(x5 6)),(7,(x5 7)),(8,v13)] fun x14 => Φ4 x14 σ6) (
packW [(3,(x5 3))] fun x15 => J0 x15 σ6)) x16 σ) (fun x1 σ2 =>
wkR σ (x1 3) σ2 R)
theorem fn79_eq (W : CallP) (a0 : PV) (σ : St) (R : Res → St → Prop) : bodyC (algP W) Tryz.prog annF 79 [a0] σ R = fn79 Tryz.prog W a0 σ R := by kernel_rfl
def fn80 (Pr : Program) (W : CallP) (a0 : PV) (σ : St) (R : Res → St → Prop) : Prop :=
oF (opC.vBoxAny a0) fun z0 =>
oF (vPart false 1 z0.2 0) fun v1 =>
oF (vLen .sl v1 σ) fun v2 =>
callB W 162 [(.list .nil []),v2] σ (fun v3 σ4 =>
CutW σ (fun J5 =>
packW [(3,v3),(4,(.int .i64 0)),(1,z0.2)] fun x63 =>
Lfp σ (fun Φ8 x9 σ10 =>
oF (vPart false 1 (x9 1) 0) fun v11 =>
oF (vLen .sl v11 σ10) fun v12 =>
oF (vBin none .lss (x9 4) v12) fun v13 =>
condW v13 (
CutW σ (fun J14 =>
oF (vPart false 1 (x9 1) 0) fun v17 =>
oF (vIndex 1 v17 (x9 4)) fun v18 =>
oF (vField 0 v18) fun v19 =>
oF (vLoad false 1 v19 σ10) fun v20 =>
oF (vLen .sl v20 σ10) fun v21 =>
callB W 162 [(x9 3),v21] σ10 (fun v22 σ23 =>
packW [(3,v22),(4,(x9 4)),(5,(.int .i64 0)),(1,(x9 1))] fun x57 =>
Lfp σ (fun Φ24 x25 σ26 =>
oF (vPart false 1 (x25 1) 0) fun v27 =>
oF (vIndex 1 v27 (x25 4)) fun v28 =>
oF (vField 0 v28) fun v29 =>
oF (vLoad false 1 v29 σ26) fun v30 =>
oF (vLen .sl v30 σ26) fun v31 =>
oF (vBin none .lss (x25 5) v31) fun v32 =>
condW v32 (
oF (vPart false 1 (x25 1) 0) fun v33 =>
oF (vIndex 1 v33 (x25 4)) fun v34 =>
oF (vField 0 v34) fun v35 =>
oF (vLoad false 1 v35 σ26) fun v36 =>
oF (vIndex 5 v36 (x25 5)) fun v37 =>
oF (vLoad true 5 v37 σ26) fun v38 =>
oF (vPut 5 (.agg [(.int .i64 0),(.int .i64 0),(.int .i64 0),(.int .i64 0),(.bool false)]) 0 v38) fun z39 =>
oF (vPart false 1 z39 0) fun v40 =>
oF (vPart false 1 z39 1) fun v41 =>
oF (vPart false 1 z39 2) fun v42 =>
oF (vPart false 1 z39 3) fun v43 =>
oF (vBuildSl 1 (List.replicate 4 (.int .i64 0)) [(0,v40),(1,v41),(2,v42),(3,v43)]) fun v44 =>
oF (vPart false 1 z39 4) fun v45 =>
callB W 164 [(x25 3),(.list .full v44)] σ26 (fun v46 σ47 =>
callB W 163 [v46,v45] σ47 (fun v48 σ49 =>
oF (vBin none .add (x25 5) (.int .i64 1)) fun v50 =>
packW [(3,v48),(4,(x25 4)),(5,v50),(1,(x25 1))] fun x51 => Φ24 x51 σ49) (pNR R)) (pNR R)) (
packW [(3,(x25 3)),(4,(x25 4)),(1,(x25 1))] fun x56 => J14 x56 σ26)) x57 σ23) (pNR R)) (fun x15 σ16 =>
oF (vBin none .add (x15 4) (.int .i64 1)) fun v60 =>
packW [(3,(x15 3)),(4,v60),(1,(x15 1))] fun x61 => Φ8 x61 σ16)) (
packW [(3,(x9 3)),(1,(x9 1))] fun x62 => J5 x62 σ10)) x63 σ4) (fun x6 σ7 =>
oF (vPart false 1 (x6 1) 1) fun v64 =>
oF (vPart false 1 (x6 1) 2) fun v65 =>
oF (vLen .sl v65 []) fun v66 =>
callB W 165 [(x6 3),v64] σ7 (fun v67 σ68 =>
callB W 162 [v67,v66] σ68 (fun v69 σ70 =>
CutW σ (fun J71 =>
packW [(3,v69),(7,(.int .i64 0)),(1,(x6 1))] fun x96 =>
Lfp σ (fun Φ74 x75 σ76 =>
oF (vPart false 1 (x75 1) 2) fun v77 =>
oF (vLen .sl v77 σ76) fun v78 =>
oF (vBin none .lss (x75 7) v78) fun v79 =>
condW v79 (
oF (vPart false 1 (x75 1) 2) fun v80 =>
oF (vIndex 2 v80 (x75 7)) fun v81 =>
oF (vField 0 v81) fun v82 =>
oF (vLoad false 1 v82 σ76) fun v83 =>
oF (vPart false 1 (x75 1) 2) fun v84 =>
oF (vIndex 2 v84 (x75 7)) fun v85 =>
oF (vField 1 v85) fun v86 =>
oF (vLoad false 1 v86 σ76) fun v87 =>
oF (vBuildSl 1 (List.replicate 2 (.int .i64 0)) [(0,v83),(1,v87)]) fun v88 =>
callB W 164 [(x75 3),(.list .full v88)] σ76 (fun v89 σ90 =>
oF (vBin none .add (x75 7) (.int .i64 1)) fun v91 =>
packW [(3,v89),(7,v91),(1,(x75 1))] fun x92 => Φ74 x92 σ90) (pNR R)) (
packW [(3,(x75 3)),(1,(x75 1))] fun x95 => J71 x95 σ76)) x96 σ70) (fun x72 σ73 =>
oF (vPart false 1 (x72 1) 3) fun v97 =>
oF (vLen .sl v97 σ73) fun v98 =>
callB W 162 [(x72 3),v98] σ73 (fun v99 σ100 =>
CutW σ (fun J101 =>
packW [(3,v99),(8,(.int .i64 0)),(1,(x72 1))] fun x162 =>
Lfp σ (fun Φ104 x105 σ106 =>
oF (vPart false 1 (x105 1) 3) fun v107 =>
oF (vLen .sl v107 σ106) fun v108 =>
oF (vBin none .lss (x105 8) v108) fun v109 =>
condW v109 (
CutW σ (fun J110 =>
oF (vPart false 1 (x105 1) 3) fun v113 =>
oF (vIndex 9 v113 (x105 8)) fun v114 =>
oF (vLoad true 9 v114 σ106) fun v115 =>
oF (vPut 9 (.agg [(.int .i64 0),(.int .i64 0),(.int .i64 0),(.int .i64 0),(.int .i64 0),(.int .i64 0),(.int .i64 0),(.int .i64 0),(.list .nil [])]) 0 v115) fun z116 =>
oF (vPart false 1 z116 0) fun v117 =>
oF (vPart false 1 z116 1) fun v118 =>
oF (vPart false 1 z116 2) fun v119 =>
oF (vPart false 1 z116 3) fun v120 =>
oF (vPart false 1 z116 4) fun v121 =>
oF (vPart false 1 z116 5) fun v122 =>
oF (vPart false 1 z116 6) fun v123 =>
oF (vPart false 1 z116 7) fun v124 =>
oF (vPart false 1 z116 8) fun v125 =>
oF (vLen .sl v125 σ106) fun v126 =>
oF (vBuildSl 1 (List.replicate 9 (.int .i64 0)) [(0,v117),(1,v118),(2,v119),(3,v120),(4,v121),(5,v122),(6,v123),(7,v124),(8,v126)]) fun v127 =>
callB W 164 [(x105 3),(.list .full v127)] σ106 (fun v128 σ129 =>
packW [(3,v128),(8,(x105 8)),(10,(.int .i64 0)),(1,(x105 1)),(9,z116)] fun x156 =>
Lfp σ (fun Φ130 x131 σ132 =>
oF (vPart false 1 (x131 9) 8) fun v133 =>
oF (vLen .sl v133 σ132) fun v134 =>
oF (vBin none .lss (x131 10) v134) fun v135 =>
condW v135 (
oF (vPart false 1 (x131 9) 8) fun v136 =>
oF (vIndex 3 v136 (x131 10)) fun v137 =>
oF (vField 0 v137) fun v138 =>
oF (vLoad false 1 v138 σ132) fun v139 =>
oF (vPart false 1 (x131 9) 8) fun v140 =>
oF (vIndex 3 v140 (x131 10)) fun v141 =>
oF (vField 1 v141) fun v142 =>
oF (vLoad false 1 v142 σ132) fun v143 =>
oF (vPart false 1 (x131 9) 8) fun v144 =>
oF (vIndex 3 v144 (x131 10)) fun v145 =>
oF (vField 2 v145) fun v146 =>
oF (vLoad false 1 v146 σ132) fun v147 =>
oF (vBuildSl 1 (List.replicate 3 (.int .i64 0)) [(0,v139),(1,v143),(2,v147)]) fun v148 =>
callB W 164 [(x131 3),(.list .full v148)] σ132 (fun v149 σ150 =>
oF (vBin none .add (x131 10) (.int .i64 1)) fun v151 =>
packW [(3,v149),(8,(x131 8)),(10,v151),(1,(x131 1)),(9,(x131 9))] fun x152 => Φ130 x152 σ150) (pNR R)) (
packW [(3,(x131 3)),(8,(x131 8)),(1,(x131 1))] fun x155 => J110 x155 σ132)) x156 σ129) (pNR R)) (fun x111 σ112 =>
oF (vBin none .add (x111 8) (.int .i64 1)) fun v159 =>
packW [(3,(x111 3)),(8,v159),(1,(x111 1))] fun x160 => Φ104 x160 σ112)) (
packW [(3,(x105 3)),(1,(x105 1))] fun x161 => J101 x161 σ106)) x162 σ100) (fun x102 σ103 =>
oF (vPart false 1 (x102 1) 4) fun v163 =>
oF (vLen .sl v163 σ103) fun v164 =>
callB W 162 [(x102 3),v164] σ103 (fun v165 σ166 =>
CutW σ (fun J167 =>
packW [(3,v165),(11,(.int .i64 0)),(1,(x102 1))] fun x209 =>
Lfp σ (fun Φ170 x171 σ172 =>
oF (vPart false 1 (x171 1) 4) fun v173 =>
oF (vLen .sl v173 σ172) fun v174 =>
oF (vBin none .lss (x171 11) v174) fun v175 =>
condW v175 (
oF (vPart false 1 (x171 1) 4) fun v176 =>
oF (vIndex 12 v176 (x171 11)) fun v177 =>
oF (vLoad true 12 v177 σ172) fun v178 =>
oF (vPut 12 (.agg [(.int .i64 0),(.int .i64 0),(.int .i64 0),(.int .i64 0),(.int .i64 0),(.int .i64 0),(.int .i64 0),(.int .i64 0),(.int .i64 0),(.int .i64 0),(.int .i64 0),(.int .i64 0)]) 0 v178) fun z179 =>
oF (vPart false 1 z179 0) fun v180 =>
oF (vPart false 1 z179 1) fun v181 =>
oF (vPart false 1 z179 2) fun v182 =>
oF (vPart false 1 z179 3) fun v183 =>
oF (vPart false 1 z179 4) fun v184 =>
oF (vPart false 1 z179 5) fun v185 =>
oF (vPart false 1 z179 6) fun v186 =>
oF (vPart false 1 z179 7) fun v187 =>
oF (vPart false 1 z179 8) fun v188 =>
oF (vPart false 1 z179 9) fun v189 =>
oF (vBuildSl 1 (List.replicate 10 (.int .i64 0)) [(0,v180),(1,v181),(2,v182),(3,v183),(4,v184),(5,v185),(6,v186),(7,v187),(8,v188),(9,v189)]) fun v190 =>
callB W 164 [(x171 3),(.list .full v190)] σ172 (fun v191 σ192 =>
oF (vPart false 1 z179 10) fun v193 =>
oF (vPart false 1 z179 11) fun v194 =>
oF (vBuildSl 1 (List.replicate 1 (.int .i64 0)) [(0,v194)]) fun v195 =>
callB W 162 [v191,v193] σ192 (fun v196 σ197 =>
callB W 164 [v196,(.list .full v195)] σ197 (fun v198 σ199 =>
oF (vBin none .add (x171 11) (.int .i64 1)) fun v200 =>
packW [(3,v198),(11,v200),(1,(x171 1))] fun x201 => Φ170 x201 σ199) (pNR R)) (pNR R)) (pNR R)) (
packW [(3,(x171 3)),(1,(x171 1))] fun x208 => J167 x208 σ172)) x209 σ166) (fun x168 σ169 =>
oF (vPart false 1 (x168 1) 5) fun v210 =>
oF (vPart false 1 (x168 1) 6) fun v211 =>
oF (vPart false 1 (x168 1) 7) fun v212 =>
oF (vLen .sl v212 []) fun v213 =>
callB W 165 [(x168 3),v210] σ169 (fun v214 σ215 =>
callB W 165 [v214,v211] σ215 (fun v216 σ217 =>
callB W 162 [v216,v213] σ217 (fun v218 σ219 =>
CutW σ (fun J220 =>
packW [(3,v218),(13,(.int .i64 0)),(1,(x168 1))] fun x239 =>
Lfp σ (fun Φ223 x224 σ225 =>
oF (vPart false 1 (x224 1) 7) fun v226 =>
oF (vLen .sl v226 σ225) fun v227 =>
oF (vBin none .lss (x224 13) v227) fun v228 =>
condW v228 (
oF (vPart false 1 (x224 1) 7) fun v229 =>
oF (vIndex 1 v229 (x224 13)) fun v230 =>
oF (vLoad false 1 v230 σ225) fun v231 =>
callB W 166 [(x224 3),v231] σ225 (fun v232 σ233 =>
oF (vBin none .add (x224 13) (.int .i64 1)) fun v234 =>
packW [(3,v232),(13,v234),(1,(x224 1))] fun x235 => Φ223 x235 σ233) (pNR R)) (
packW [(3,(x224 3)),(1,(x224 1))] fun x238 => J220 x238 σ225)) x239 σ219) (fun x221 σ222 =>
oF (vPart false 1 (x221 1) 8) fun v240 =>
oF (vLen .sl v240 σ222) fun v241 =>
callB W 162 [(x221 3),v241] σ222 (fun v242 σ243 =>
CutW σ (fun J244 =>
packW [(3,v242),(14,(.int .i64 0)),(1,(x221 1))] fun x281 =>
Lfp σ (fun Φ247 x248 σ249 =>
oF (vPart false 1 (x248 1) 8) fun v250 =>
oF (vLen .sl v250 σ249) fun v251 =>
oF (vBin none .lss (x248 14) v251) fun v252 =>
condW v252 (
oF (vPart false 1 (x248 1) 8) fun v253 =>
oF (vIndex 3 v253 (x248 14)) fun v254 =>
oF (vField 0 v254) fun v255 =>
oF (vLoad false 1 v255 σ249) fun v256 =>
oF (vPart false 1 (x248 1) 8) fun v257 =>
oF (vIndex 3 v257 (x248 14)) fun v258 =>
oF (vField 1 v258) fun v259 =>
oF (vLoad false 1 v259 []) fun v260 =>
oF (vPart false 1 (x248 1) 8) fun v261 =>
oF (vIndex 3 v261 (x248 14)) fun v262 =>
oF (vField 2 v262) fun v263 =>
oF (vLoad false 1 v263 []) fun v264 =>
oF (vBuildSl 1 (List.replicate 1 (.int .i64 0)) [(0,v264)]) fun v265 =>
callB W 166 [(x248 3),v256] σ249 (fun v266 σ267 =>
callB W 163 [v266,v260] σ267 (fun v268 σ269 =>
callB W 164 [v268,(.list .full v265)] σ269 (fun v270 σ271 =>
oF (vBin none .add (x248 14) (.int .i64 1)) fun v272 =>
packW [(3,v270),(14,v272),(1,(x248 1))] fun x273 => Φ247 x273 σ271) (pNR R)) (pNR R)) (pNR R)) (
packW [(3,(x248 3)),(1,(x248 1))] fun x280 => J244 x280 σ249)) x281 σ243) (fun x245 σ246 =>
oF (vPart false 1 (x245 1) 9) fun v282 =>
oF (vLen .sl v282 σ246) fun v283 =>
callB W 162 [(x245 3),v283] σ246 (fun v284 σ285 =>
CutW σ (fun J286 =>
packW [(3,v284),(15,(.int .i64 0)),(1,(x245 1))] fun x311 =>
Lfp σ (fun Φ289 x290 σ291 =>
oF (vPart false 1 (x290 1) 9) fun v292 =>
oF (vLen .sl v292 σ291) fun v293 =>
oF (vBin none .lss (x290 15) v293) fun v294 =>
condW v294 (
oF (vPart false 1 (x290 1) 9) fun v295 =>
oF (vIndex 2 v295 (x290 15)) fun v296 =>
oF (vField 0 v296) fun v297 =>
oF (vLoad false 1 v297 σ291) fun v298 =>
oF (vPart false 1 (x290 1) 9) fun v299 =>
oF (vIndex 2 v299 (x290 15)) fun v300 =>
oF (vField 1 v300) fun v301 =>
oF (vLoad false 1 v301 σ291) fun v302 =>
oF (vBuildSl 1 (List.replicate 2 (.int .i64 0)) [(0,v298),(1,v302)]) fun v303 =>
callB W 164 [(x290 3),(.list .full v303)] σ291 (fun v304 σ305 =>
oF (vBin none .add (x290 15) (.int .i64 1)) fun v306 =>
packW [(3,v304),(15,v306),(1,(x290 1))] fun x307 => Φ289 x307 σ305) (pNR R)) (
packW [(3,(x290 3))] fun x310 => J286 x310 σ291)) x311 σ285) (fun x287 σ288 =>
wkR σ (x287 3) σ288 R)) (pNR R))) (pNR R))) (pNR R)) (pNR R)) (pNR R))) (pNR R))) (pNR R))) (pNR R)) (pNR R))) (pNR R)
theorem fn80_eq (W : CallP) (a0 : PV) (σ : St) (R : Res → St → Prop) : bodyC (algP W) Tryz.prog annF 80 [a0] σ R = fn80 Tryz.prog W a0 σ R := by kernel_rfl
def fn142 (Pr : Program) (W : CallP) (a0 a1 a2 : PV) (σ : St) (R : Res → St → Prop) : Prop :=
oF (vLen .sl a1 σ) fun v0 =>
callB W 150 [a0,v0] σ (fun v1 σ2 =>
oF (vLen .sl a1 σ2) fun v3 =>
packW [(2,a2),(12,a1),(13,v3),(14,(.int .i64 0))] fun x18 =>
Lfp σ (fun Φ4 x5 σ6 =>
oF (vBin none .lss (x5 14) (x5 13)) fun v7 =>
condW v7 (
oF (vIndex 1 (x5 12) (x5 14)) fun v8 =>
oF (vLoad true 1 v8 σ6) fun v9 =>
oF (vPut 1 (.agg [(.list .nil [])]) 0 v9) fun z10 =>
oF (vPart true 1 z10 0) fun v11 =>
callG (algP W) Pr false (x5 2) [v11] σ6 (fun v12 σ13 =>
oF (vBin none .add (x5 14) (.int .i64 1)) fun v14 =>
packW [(2,(x5 2)),(12,(x5 12)),(13,(x5 13)),(14,v14)] fun x15 => Φ4 x15 σ13) (pNR R)) (
wkR σ (.tuple []) σ6 R)) x18 σ2) (pNR R)
theorem fn142_eq (W : CallP) (a0 a1 a2 : PV) (σ : St) (R : Res → St → Prop) : bodyC (algP W) Tryz.prog annF 142 [a0,a1,a2] σ R = fn142 Tryz.prog W a0 a1 a2 σ R := by kernel_rfl
def fn143 (Pr : Program) (W : CallP) (a0 a1 : PV) (σ : St) (R : Res → St → Prop) : Prop :=
oF (opC.vBoxAny a0) fun z0 =>
oF (vLoad false 1 a1 σ) fun v1 =>
oF (vPart false 1 z0.2 0) fun v2 =>
oF (vLoad false 1 a1 σ) fun v3 =>
callB W 144 [v1,v2,(.func 145 1 [v3])] σ (fun v4 σ5 =>
wkR σ (.tuple []) σ5 R) (pNR R)
theorem fn143_eq (W : CallP) (a0 a1 : PV) (σ : St) (R : Res → St → Prop) : bodyC (algP W) Tryz.prog annF 143 [a0,a1] σ R = fn143 Tryz.prog W a0 a1 σ R := by kernel_rfl
def fn144 (Pr : Program) (W : CallP) (a0 a1 a2 : PV) (σ : St) (R : Res → St → Prop) : Prop :=
oF (vLen .sl a1 σ) fun v0 =>
callB W 150 [a0,v0] σ (fun v1 σ2 =>
oF (vLen .sl a1 σ2) fun v3 =>
packW [(2,a2),(12,a1),(13,v3),(14,(.int .i64 0))] fun x18 =>
Lfp σ (fun Φ4 x5 σ6 =>
oF (vBin none .lss (x5 14) (x5 13)) fun v7 =>
condW v7 (
oF (vIndex 5 (x5 12) (x5 14)) fun v8 =>
oF (vLoad true 5 v8 σ6) fun v9 =>
oF (vPut 5 (.agg [(.int .i64 0),(.int .i64 0),(.int .i64 0),(.int .i64 0),(.bool false)]) 0 v9) fun z10 =>
oF (vPart true 5 z10 0) fun v11 =>
callG (algP W) Pr false (x5 2) [v11] σ6 (fun v12 σ13 =>
oF (vBin none .add (x5 14) (.int .i64 1)) fun v14 =>
packW [(2,(x5 2)),(12,(x5 12)),(13,(x5 13)),(14,v14)] fun x15 => Φ4 x15 σ13) (pNR R)) (
wkR σ (.tuple []) σ6 R)) x18 σ2) (pNR R)
theorem fn144_eq (W : CallP) (a0 a1 a2 : PV) (σ : St) (R : Res → St → Prop) : bodyC (algP W) Tryz.prog annF 144 [a0,a1,a2] σ R = fn144 Tryz.prog W a0 a1 a2 σ R := by kernel_rfl
def fn145 (Pr : Program) (W : CallP) (a0 a1 : PV) (σ : St) (R : Res → St → Prop) : Prop :=
oF (opC.vBoxAny a1) fun z0 =>
oF (vPart false 1 z0.2 0) fun v1 =>
callB W 150 [a0,v1] σ (fun v2 σ3 =>
oF (vPart false 1 z0.2 1) fun v4 =>
callB W 150 [a0,v4] σ3 (fun v5 σ6 =>
oF (vPart false 1 z0.2 2) fun v7 =>
callB W 150 [a0,v7] σ6 (fun v8 σ9 =>
oF (vPart false 1 z0.2 3) fun v10 =>
callB W 150 [a0,v10] σ9 (fun v11 σ12 =>
oF (vPart false 1 z0.2 4) fun v13 =>
callB W 159 [a0,v13] σ12 (fun v14 σ15 =>
wkR σ (.tuple []) σ15 R) (pNR R)) (pNR R)) (pNR R)) (pNR R)) (pNR R)
theorem fn145_eq (W : CallP) (a0 a1 : PV) (σ : St) (R : Res → St → Prop) : bodyC (algP W) Tryz.prog annF 145 [a0,a1] σ R = fn145 Tryz.prog W a0 a1 σ R := by kernel_rfl
def fn146 (Pr : Program) (W : CallP) (a0 a1 a2 : PV) (σ : St) (R : Res → St → Prop) : Prop :=
oF (vLen .sl a1 σ) fun v0 =>
callB W 150 [a0,v0] σ (fun v1 σ2 =>
oF (vLen .sl a1 σ2) fun v3 =>
packW [(2,a2),(12,a1),(13,v3),(14,(.int .i64 0))] fun x16 =>
Lfp σ (fun Φ4 x5 σ6 =>
oF (vBin none .lss (x5 14) (x5 13)) fun v7 =>
condW v7 (
oF (vIndex 1 (x5 12) (x5 14)) fun v8 =>
oF (vLoad false 1 v8 σ6) fun v9 =>
callG (algP W) Pr false (x5 2) [v9] σ6 (fun v10 σ11 =>
oF (vBin none .add (x5 14) (.int .i64 1)) fun v12 =>
packW [(2,(x5 2)),(12,(x5 12)),(13,(x5 13)),(14,v12)] fun x13 => Φ4 x13 σ11) (pNR R)) (
wkR σ (.tuple []) σ6 R)) x16 σ2) (pNR R)
theorem fn146_eq (W : CallP) (a0 a1 a2 : PV) (σ : St) (R : Res → St → Prop) : bodyC (algP W) Tryz.prog annF 146 [a0,a1,a2] σ R = fn146 Tryz.prog W a0 a1 a2 σ R := by kernel_rfl
def fn147 (Pr : Program) (W : CallP) (a0 a1 : PV) (σ : St) (R : Res → St → Prop) : Prop :=
callB W 246 [a0,a1,(.func 150 1 [a0])] σ (fun v0 σ1 =>
wkR σ (.tuple []) σ1 R) (pNR R)
theorem fn147_eq (W : CallP) (a0 a1 : PV) (σ : St) (R : Res → St → Prop) : bodyC (algP W) Tryz.prog annF 147 [a0,a1] σ R = fn147 Tryz.prog W a0 a1 σ R := by kernel_rfl
def fn148 (Pr : Program) (W : CallP) (a0 a1 a2 : PV) (σ : St) (R : Res → St → Prop) : Prop :=
oF (vLen .sl a1 σ) fun v0 =>
callB W 150 [a0,v0] σ (fun v1 σ2 =>
oF (vLen .sl a1 σ2) fun v3 =>
packW [(2,a2),(12,a1),(13,v3),(14,(.int .i64 0))] fun x18 =>
Lfp σ (fun Φ4 x5 σ6 =>
oF (vBin none .lss (x5 14) (x5 13)) fun v7 =>
condW v7 (
oF (vIndex 2 (x5 12) (x5 14)) fun v8 =>
oF (vLoad true 2 v8 σ6) fun v9 =>
oF (vPut 2 (.agg [(.int .i64 0),(.int .i64 0)]) 0 v9) fun z10 =>
oF (vPart true 2 z10 0) fun v11 =>
callG (algP W) Pr false (x5 2) [v11] σ6 (fun v12 σ13 =>
oF (vBin none .add (x5 14) (.int .i64 1)) fun v14 =>
packW [(2,(x5 2)),(12,(x5 12)),(13,(x5 13)),(14,v14)] fun x15 => Φ4 x15 σ13) (pNR R)) (
wkR σ (.tuple []) σ6 R)) x18 σ2) (pNR R)
theorem fn148_eq (W : CallP) (a0 a1 a2 : PV) (σ : St) (R : Res → St → Prop) : bodyC (algP W) Tryz.prog annF 148 [a0,a1,a2] σ R = fn148 Tryz.prog W a0 a1 a2 σ R := by kernel_rfl
def fn149 (Pr : Program) (W : CallP) (a0 a1 : PV) (σ : St) (R : Res → St → Prop) : Prop :=
oF (opC.vBoxAny a0) fun z0 =>
oF (vLoad false 1 a1 σ) fun v1 =>
oF (vPart false 1 z0.2 0) fun v2 =>
callB W 150 [v1,v2] σ (fun v3 σ4 =>
oF (vLoad false 1 a1 σ4) fun v5 =>
oF (vPart false 1 z0.2 1) fun v6 =>
callB W 150 [v5,v6] σ4 (fun v7 σ8 =>
wkR σ (.tuple []) σ8 R) (pNR R)) (pNR R)
theorem fn149_eq (W : CallP) (a0 a1 : PV) (σ : St) (R : Res → St → Prop) : bodyC (algP W) Tryz.prog annF 149 [a0,a1] σ R = fn149 Tryz.prog W a0 a1 σ R := by kernel_rfl
def fn150 (Pr : Program) (W : CallP) (a0 a1 : PV) (σ : St) (R : Res → St → Prop) : Prop :=
callB W 247 [a0,a1] σ (fun v0 σ1 =>
wkR σ (.tuple []) σ1 R) (pNR R)
theorem fn150_eq (W : CallP) (a0 a1 : PV) (σ : St) (R : Res → St → Prop) : bodyC (algP W) Tryz.prog annF 150 [a0,a1] σ R = fn150 Tryz.prog W a0 a1 σ R := by kernel_rfl
def fn151 (Pr : Program) (W : CallP) (a0 a1 a2 : PV) (σ : St) (R : Res → St → Prop) : Prop :=
oF (vLen .sl a1 σ) fun v0 =>
callB W 150 [a0,v0] σ (fun v1 σ2 =>
oF (vLen .sl a1 σ2) fun v3 =>
packW [(2,a2),(12,a1),(13,v3),(14,(.int .i64 0))] fun x18 =>
Lfp σ (fun Φ4 x5 σ6 =>
oF (vBin none .lss (x5 14) (x5 13)) fun v7 =>
condW v7 (
oF (vIndex 9 (x5 12) (x5 14)) fun v8 =>
oF (vLoad true 9 v8 σ6) fun v9 =>
oF (vPut 9 (.agg [(.int .i64 0),(.int .i64 0),(.int .i64 0),(.int .i64 0),(.int .i64 0),(.int .i64 0),(.int .i64 0),(.int .i64 0),(.list .nil [])]) 0 v9) fun z10 =>
oF (vPart true 9 z10 0) fun v11 =>
callG (algP W) Pr false (x5 2) [v11] σ6 (fun v12 σ13 =>
oF (vBin none .add (x5 14) (.int .i64 1)) fun v14 =>
packW [(2,(x5 2)),(12,(x5 12)),(13,(x5 13)),(14,v14)] fun x15 => Φ4 x15 σ13) (pNR R)) (
wkR σ (.tuple []) σ6 R)) x18 σ2) (pNR R)
theorem fn151_eq (W : CallP) (a0 a1 a2 : PV) (σ : St) (R : Res → St → Prop) : bodyC (algP W) Tryz.prog annF 151 [a0,a1,a2] σ R = fn151 Tryz.prog W a0 a1 a2 σ R := by kernel_rfl
def fn152 (Pr : Program) (W : CallP) (a0 a1 : PV) (σ : St) (R : Res → St → Prop) : Prop :=
oF (opC.vBoxAny a0) fun z0 =>
if 0 < z0.1 then newW z0.1 z0.2 σ fun p1 σ2 =>
oF (opC.vBoxAny a1) fun z3 =>
CutW σ (fun J4 =>
oF (vPart false 1 z3.2 0) fun v7 =>
oF (vPart false 1 z3.2 1) fun v8 =>
oF (vPart false 1 z3.2 2) fun v9 =>
oF (vPart false 1 z3.2 3) fun v10 =>
oF (vPart false 1 z3.2 4) fun v11 =>
oF (vPart false 1 z3.2 5) fun v12 =>
oF (vPart false 1 z3.2 6) fun v13 =>
oF (vPart false 1 z3.2 7) fun v14 =>
oF (vBuildSl 1 (List.replicate 8 (.int .i64 0)) [(0,v7),(1,v8),(2,v9),(3,v10),(4,v11),(5,v12),(6,v13),(7,v14)]) fun v15 =>
oF (vLen .sl (.list .full v15) σ2) fun v16 =>
packW [(2,p1),(22,(.list .full v15)),(23,v16),(24,(.int .i64 0)),(3,z3.2)] fun x31 =>
Lfp σ (fun Φ17 x18 σ19 =>
oF (vBin none .lss (x18 24) (x18 23)) fun v20 =>
condW v20 (
oF (vIndex 1 (x18 22) (x18 24)) fun v21 =>
oF (vLoad false 1 v21 σ19) fun v22 =>
oF (vLoad false 1 (x18 2) σ19) fun v23 =>
callB W 150 [v23,v22] σ19 (fun v24 σ25 =>
oF (vBin none .add (x18 24) (.int .i64 1)) fun v26 =>
packW [(2,(x18 2)),(22,(x18 22)),(23,(x18 23)),(24,v26),(3,(x18 3))] fun x27 => Φ17 x27 σ25) (pNR R)) (
packW [(2,(x18 2)),(3,(x18 3))] fun x30 => J4 x30 σ19)) x31 σ2) (fun x5 σ6 =>
oF (vLoad false 1 (x5 2) σ6) fun v32 =>
oF (vPart false 1 (x5 3) 8) fun v33 =>
callB W 248 [v32,v33,(.func 249 0 [(x5 2)])] σ6 (fun v34 σ35 =>
wkR σ (.tuple []) σ35 R) (pNR R)) else False
theorem fn152_eq (W : CallP) (a0 a1 : PV) (σ : St) (R : Res → St → Prop) : bodyC (algP W) Tryz.prog annF 152 [a0,a1] σ R = fn152 Tryz.prog W a0 a1 σ R := by kernel_rfl
def fn153 (Pr : Program) (W : CallP) (a0 a1 a2 : PV) (σ : St) (R : Res → St → Prop) : Prop :=
oF (vLen .sl a1 σ) fun v0 =>
callB W 150 [a0,v0] σ (fun v1 σ2 =>
oF (vLen .sl a1 σ2) fun v3 =>
packW [(2,a2),(12,a1),(13,v3),(14,(.int .i64 0))] fun x18 =>
Lfp σ (fun Φ4 x5 σ6 =>
oF (vBin none .lss (x5 14) (x5 13)) fun v7 =>
condW v7 (
oF (vIndex 12 (x5 12) (x5 14)) fun v8 =>
oF (vLoad true 12 v8 σ6) fun v9 =>
oF (vPut 12 (.agg [(.int .i64 0),(.int .i64 0),(.int .i64 0),(.int .i64 0),(.int .i64 0),(.int .i64 0),(.int .i64 0),(.int .i64 0),(.int .i64 0),(.int .i64 0),(.int .i64 0),(.int .i64 0)]) 0 v9) fun z10 =>
oF (vPart true 12 z10 0) fun v11 =>
callG (algP W) Pr false (x5 2) [v11] σ6 (fun v12 σ13 =>
oF (vBin none .add (x5 14) (.int .i64 1)) fun v14 =>
packW [(2,(x5 2)),(12,(x5 12)),(13,(x5 13)),(14,v14)] fun x15 => Φ4 x15 σ13) (pNR R)) (
wkR σ (.tuple []) σ6 R)) x18 σ2) (pNR R)
theorem fn153_eq (W : CallP) (a0 a1 a2 : PV) (σ : St) (R : Res → St → Prop) : bodyC (algP W) Tryz.prog annF 153 [a0,a1,a2] σ R = fn153 Tryz.prog W a0 a1 a2 σ R := by kernel_rfl
def fn154 (Pr : Program) (W : CallP) (a0 a1 : PV) (σ : St) (R : Res → St → Prop) : Prop :=
oF (opC.vBoxAny a1) fun z0 =>
oF (vPart false 1 z0.2 0) fun v1 =>
callB W 150 [a0,v1] σ (fun v2 σ3 =>
CutW σ (fun J4 =>
oF (vPart true 3 z0.2 1) fun v7 =>
oF (vPart true 3 z0.2 4) fun v8 =>
oF (vPart true 3 z0.2 7) fun v9 =>
oF (vBuildSl 3 (List.replicate 3 (.agg [(.int .i64 0),(.int .i64 0),(.int .i64 0)])) [(0,v7),(1,v8),(2,v9)]) fun v10 =>
oF (vLen .sl (.list .full v10) σ3) fun v11 =>
packW [(0,a0),(16,(.list .full v10)),(17,v11),(18,(.int .i64 0)),(3,z0.2)] fun x37 =>
Lfp σ (fun Φ12 x13 σ14 =>
oF (vBin none .lss (x13 18) (x13 17)) fun v15 =>
condW v15 (
oF (vIndex 3 (x13 16) (x13 18)) fun v16 =>
oF (vLoad true 3 v16 σ14) fun v17 =>
oF (vPut 3 (.agg [(.int .i64 0),(.int .i64 0),(.int .i64 0)]) 0 v17) fun z18 =>
oF (vPart false 1 z18 0) fun v19 =>
callB W 150 [(x13 0),v19] σ14 (fun v20 σ21 =>
oF (vPart false 1 z18 1) fun v22 =>
callB W 150 [(x13 0),v22] σ21 (fun v23 σ24 =>
oF (vPart false 1 z18 2) fun v25 =>
callB W 150 [(x13 0),v25] σ24 (fun v26 σ27 =>
oF (vBin none .add (x13 18) (.int .i64 1)) fun v28 =>
packW [(0,(x13 0)),(16,(x13 16)),(17,(x13 17)),(18,v28),(3,(x13 3))] fun x29 => Φ12 x29 σ27) (pNR R)) (pNR R)) (pNR R)) (
packW [(0,(x13 0)),(3,(x13 3))] fun x36 => J4 x36 σ14)) x37 σ3) (fun x5 σ6 =>
oF (vPart false 1 (x5 3) 10) fun v38 =>
callB W 247 [(x5 0),v38] σ6 (fun v39 σ40 =>
oF (vPart false 1 (x5 3) 11) fun v41 =>
callB W 150 [(x5 0),v41] σ40 (fun v42 σ43 =>
wkR σ (.tuple []) σ43 R) (pNR R)) (pNR R))) (pNR R)
theorem fn154_eq (W : CallP) (a0 a1 : PV) (σ : St) (R : Res → St → Prop) : bodyC (algP W) Tryz.prog annF 154 [a0,a1] σ R = fn154 Tryz.prog W a0 a1 σ R := by kernel_rfl
def fn155 (Pr : Program) (W : CallP) (a0 a1 a2 : PV) (σ : St) (R : Res → St → Prop) : Prop :=
oF (vLen .sl a1 σ) fun v0 =>
callB W 150 [a0,v0] σ (fun v1 σ2 =>
oF (vLen .sl a1 σ2) fun v3 =>
packW [(2,a2),(12,a1),(13,v3),(14,(.int .i64 0))] fun x16 =>
Lfp σ (fun Φ4 x5 σ6 =>
oF (vBin none .lss (x5 14) (x5 13)) fun v7 =>
condW v7 (
oF (vIndex 1 (x5 12) (x5 14)) fun v8 =>
oF (vLoad false 1 v8 σ6) fun v9 =>
callG (algP W) Pr false (x5 2) [v9] σ6 (fun v10 σ11 =>
oF (vBin none .add (x5 14) (.int .i64 1)) fun v12 =>
packW [(2,(x5 2)),(12,(x5 12)),(13,(x5 13)),(14,v12)] fun x13 => Φ4 x13 σ11) (pNR R)) (
wkR σ (.tuple []) σ6 R)) x16 σ2) (pNR R)
theorem fn155_eq (W : CallP) (a0 a1 a2 : PV) (σ : St) (R : Res → St → Prop) : bodyC (algP W) Tryz.prog annF 155 [a0,a1,a2] σ R = fn155 Tryz.prog W a0 a1 a2 σ R := by kernel_rfl
def fn156 (Pr : Program) (W : CallP) (a0 a1 : PV) (σ : St) (R : Res → St → Prop) : Prop :=
oF (vLen .str a1 σ) fun v0 =>
callB W 150 [a0,v0] σ (fun v1 σ2 =>
oF (vNil a0) fun v3 =>
oF (vField 0 v3) fun v4 =>
oF (vLoad false 1 v4 σ2) fun v5 =>
bindS (vAppendT 23 1 1 v5 a1 σ2) fun v6 σ7 =>
oF (vNil a0) fun v8 =>
oF (vField 0 v8) fun v9 =>
oF (vStore 1 v9 v6 σ7) fun σ10 =>
wkR σ (.tuple []) σ10 R) (pNR R)
theorem fn156_eq (W : CallP) (a0 a1 : PV) (σ : St) (R : Res → St → Prop) : bodyC (algP W) Tryz.prog annF 156 [a0,a1] σ R = fn156 Tryz.prog W a0 a1 σ R := by kernel_rfl
def fn157 (Pr : Program) (W : CallP) (a0 a1 a2 : PV) (σ : St) (R : Res → St → Prop) : Prop :=
oF (vLen .sl a1 σ) fun v0 =>
callB W 150 [a0,v0] σ (fun v1 σ2 =>
oF (vLen .sl a1 σ2) fun v3 =>
packW [(2,a2),(12,a1),(13,v3),(14,(.int .i64 0))] fun x18 =>
Lfp σ (fun Φ4 x5 σ6 =>
oF (vBin none .lss (x5 14) (x5 13)) fun v7 =>
condW v7 (
oF (vIndex 3 (x5 12) (x5 14)) fun v8 =>
oF (vLoad true 3 v8 σ6) fun v9 =>
oF (vPut 3 (.agg [(.str []),(.bool false),(.int .i64 0)]) 0 v9) fun z10 =>
oF (vPart true 3 z10 0) fun v11 =>
callG (algP W) Pr false (x5 2) [v11] σ6 (fun v12 σ13 =>
oF (vBin none .add (x5 14) (.int .i64 1)) fun v14 =>
packW [(2,(x5 2)),(12,(x5 12)),(13,(x5 13)),(14,v14)] fun x15 => Φ4 x15 σ13) (pNR R)) (
wkR σ (.tuple []) σ6 R)) x18 σ2) (pNR R)
theorem fn157_eq (W : CallP) (a0 a1 a2 : PV) (σ : St) (R : Res → St → Prop) : bodyC (algP W) Tryz.prog annF 157 [a0,a1,a2] σ R = fn157 Tryz.prog W a0 a1 a2 σ R := by kernel_rfl
def fn158 (Pr : Program) (W : CallP) (a0 a1 : PV) (σ : St) (R : Res → St → Prop) : Prop :=
oF (opC.vBoxAny a0) fun z0 =>
oF (vLoad false 1 a1 σ) fun v1 =>
oF (vPart false 1 z0.2 0) fun v2 =>
callB W 156 [v1,v2] σ (fun v3 σ4 =>
oF (vLoad false 1 a1 σ4) fun v5 =>
oF (vPart false 1 z0.2 1) fun v6 =>
callB W 159 [v5,v6] σ4 (fun v7 σ8 =>
oF (vLoad false 1 a1 σ8) fun v9 =>
oF (vPart false 1 z0.2 2) fun v10 =>
callB W 150 [v9,v10] σ8 (fun v11 σ12 =>
wkR σ (.tuple []) σ12 R) (pNR R)) (pNR R)) (pNR R)
theorem fn158_eq (W : CallP) (a0 a1 : PV) (σ : St) (R : Res → St → Prop) : bodyC (algP W) Tryz.prog annF 158 [a0,a1] σ R = fn158 Tryz.prog W a0 a1 σ R := by kernel_rfl
def fn159 (Pr : Program) (W : CallP) (a0 a1 : PV) (σ : St) (R : Res → St → Prop) : Prop :=
condW a1 (
callB W 150 [a0,(.int .i64 1)] σ (fun v0 σ1 =>
wkR σ (.tuple []) σ1 R) (pNR R)) (
callB W 150 [a0,(.int .i64 0)] σ (fun v4 σ5 =>
wkR σ (.tuple []) σ5 R) (pNR R))
theorem fn159_eq (W : CallP) (a0 a1 : PV) (σ : St) (R : Res → St → Prop) : bodyC (algP W) Tryz.prog annF 159 [a0,a1] σ R = fn159 Tryz.prog W a0 a1 σ R := by kernel_rfl
def fn160 (Pr : Program) (W : CallP) (a0 a1 a2 : PV) (σ : St) (R : Res → St → Prop) : Prop :=
oF (vLen .sl a1 σ) fun v0 =>
callB W 150 [a0,v0] σ (fun v1 σ2 =>
oF (vLen .sl a1 σ2) fun v3 =>
packW [(2,a2),(12,a1),(13,v3),(14,(.int .i64 0))] fun x18 =>
Lfp σ (fun Φ4 x5 σ6 =>
oF (vBin none .lss (x5 14) (x5 13)) fun v7 =>
condW v7 (
oF (vIndex 2 (x5 12) (x5 14)) fun v8 =>
oF (vLoad true 2 v8 σ6) fun v9 =>
oF (vPut 2 (.agg [(.int .i64 0),(.int .i64 0)]) 0 v9) fun z10 =>
oF (vPart true 2 z10 0) fun v11 =>
callG (algP W) Pr false (x5 2) [v11] σ6 (fun v12 σ13 =>
oF (vBin none .add (x5 14) (.int .i64 1)) fun v14 =>
packW [(2,(x5 2)),(12,(x5 12)),(13,(x5 13)),(14,v14)] fun x15 => Φ4 x15 σ13) (pNR R)) (
wkR σ (.tuple []) σ6 R)) x18 σ2) (pNR R)
theorem fn160_eq (W : CallP) (a0 a1 a2 : PV) (σ : St) (R : Res → St → Prop) : bodyC (algP W) Tryz.prog annF 160 [a0,a1,a2] σ R = fn160 Tryz.prog W a0 a1 a2 σ R := by kernel_rfl
def fn161 (Pr : Program) (W : CallP) (a0 a1 : PV) (σ : St) (R : Res → St → Prop) : Prop :=
oF (opC.vBoxAny a0) fun z0 =>
oF (vLoad false 1 a1 σ) fun v1 =>
oF (vPart false 1 z0.2 0) fun v2 =>
callB W 150 [v1,v2] σ (fun v3 σ4 =>
oF (vLoad false 1 a1 σ4) fun v5 =>
oF (vPart false 1 z0.2 1) fun v6 =>
callB W 150 [v5,v6] σ4 (fun v7 σ8 =>
wkR σ (.tuple []) σ8 R) (pNR R)) (pNR R)
theorem fn161_eq (W : CallP) (a0 a1 : PV) (σ : St) (R : Res → St → Prop) : bodyC (algP W) Tryz.prog annF 161 [a0,a1] σ R = fn161 Tryz.prog W a0 a1 σ R := by kernel_rfl
def fn162 (Pr : Program) (W : CallP) (a0 a1 : PV) (σ : St) (R : Res → St → Prop) : Prop :=
oF (vConv .u64 a1) fun v0 =>
oF (vBin none .shl v0 (.int .u64 1)) fun v1 =>
CutW σ (fun J2 =>
oF (vBin none .lss a1 (.int .i64 0)) fun v5 =>
condW v5 (
oF (vUn .xor v1) fun v6 =>
packW [(0,a0),(5,v6)] fun x7 => J2 x7 σ) (
packW [(0,a0),(5,v1)] fun x8 => J2 x8 σ)) (fun x3 σ4 =>
CutW σ (fun J9 =>
packW [(0,(x3 0)),(5,(x3 5))] fun x24 =>
Lfp σ (fun Φ12 x13 σ14 =>
oF (vBin none .geq (x13 5) (.int .u64 128)) fun v15 =>
condW v15 (
oF (vConv .u8 (x13 5)) fun v16 =>
oF (vBin none .or v16 (.int .u8 128)) fun v17 =>
oF (vBuildSl 1 (List.replicate 1 (.int .u8 0)) [(0,v17)]) fun v18 =>
bindS (vAppendT 23 1 1 (x13 0) (.list .full v18) σ14) fun v19 σ20 =>
oF (vBin none .shr (x13 5) (.int .u64 7)) fun v21 =>
packW [(0,v19),(5,v21)] fun x22 => Φ12 x22 σ20) (
packW [(0,(x13 0)),(5,(x13 5))] fun x23 => J9 x23 σ14)) x24 σ4) (fun x10 σ11 =>
oF (vConv .u8 (x10 5)) fun v25 =>
oF (vBuildSl 1 (List.replicate 1 (.int .u8 0)) [(0,v25)]) fun v26 =>
bindS (vAppendT 23 1 1 (x10 0) (.list .full v26) σ11) fun v27 σ28 =>
wkR σ v27 σ28 R))
theorem fn162_eq (W : CallP) (a0 a1 : PV) (σ : St) (R : Res → St → Prop) : bodyC (algP W) Tryz.prog annF 162 [a0,a1] σ R = fn162 Tryz.prog W a0 a1 σ R := by kernel_rfl
def fn163 (Pr : Program) (W : CallP) (a0 a1 : PV) (σ : St) (R : Res → St → Prop) : Prop :=
condW a1 (
callB W 162 [a0,(.int .i64 1)] σ (fun v0 σ1 =>
wkR σ v0 σ1 R) (pNR R)) (
callB W 162 [a0,(.int .i64 0)] σ (fun v4 σ5 =>
wkR σ v4 σ5 R) (pNR R))
theorem fn163_eq (W : CallP) (a0 a1 : PV) (σ : St) (R : Res → St → Prop) : bodyC (algP W) Tryz.prog annF 163 [a0,a1] σ R = fn163 Tryz.prog W a0 a1 σ R := by kernel_rfl
def fn164 (Pr : Program) (W : CallP) (a0 a1 : PV) (σ : St) (R : Res → St → Prop) : Prop :=
CutW σ (fun J0 =>
packW [(0,a0),(1,a1),(5,(.int .i64 0))] fun x17 =>
Lfp σ (fun Φ3 x4 σ5 =>
oF (vLen .sl (x4 1) σ5) fun v6 =>
oF (vBin none .lss (x4 5) v6) fun v7 =>
condW v7 (
oF (vIndex 1 (x4 1) (x4 5)) fun v8 =>
oF (vLoad false 1 v8 σ5) fun v9 =>
callB W 162 [(x4 0),v9] σ5 (fun v10 σ11 =>
oF (vBin none .add (x4 5) (.int .i64 1)) fun v12 =>
packW [(0,v10),(1,(x4 1)),(5,v12)] fun x13 => Φ3 x13 σ11) (pNR R)) (
packW [(0,(x4 0))] fun x16 => J0 x16 σ5)) x17 σ) (fun x1 σ2 =>
wkR σ (x1 0) σ2 R)
theorem fn164_eq (W : CallP) (a0 a1 : PV) (σ : St) (R : Res → St → Prop) : bodyC (algP W) Tryz.prog annF 164 [a0,a1] σ R = fn164 Tryz.prog W a0 a1 σ R := by kernel_rfl
def fn165 (Pr : Program) (W : CallP) (a0 a1 : PV) (σ : St) (R : Res → St → Prop) : Prop :=
oF (vLen .sl a1 σ) fun v0 =>
callB W 162 [a0,v0] σ (fun v1 σ2 =>
CutW σ (fun J3 =>
packW [(0,v1),(1,a1),(5,(.int .i64 0))] fun x27 =>
Lfp σ (fun Φ6 x7 σ8 =>
oF (vLen .sl (x7 1) σ8) fun v9 =>
oF (vBin none .lss (x7 5) v9) fun v10 =>
condW v10 (
oF (vIndex 1 (x7 1) (x7 5)) fun v11 =>
oF (vLoad false 1 v11 σ8) fun v12 =>
oF (vLen .sl v12 σ8) fun v13 =>
oF (vIndex 1 (x7 1) (x7 5)) fun v14 =>
oF (vLoad false 1 v14 []) fun v15 =>
callB W 162 [(x7 0),v13] σ8 (fun v16 σ17 =>
callB W 164 [v16,v15] σ17 (fun v18 σ19 =>
oF (vBin none .add (x7 5) (.int .i64 1)) fun v20 =>
packW [(0,v18),(1,(x7 1)),(5,v20)] fun x21 => Φ6 x21 σ19) (pNR R)) (pNR R)) (
packW [(0,(x7 0))] fun x26 => J3 x26 σ8)) x27 σ2) (fun x4 σ5 =>
wkR σ (x4 0) σ5 R)) (pNR R)
theorem fn165_eq (W : CallP) (a0 a1 : PV) (σ : St) (R : Res → St → Prop) : bodyC (algP W) Tryz.prog annF 165 [a0,a1] σ R = fn165 Tryz.prog W a0 a1 σ R := by kernel_rfl
def fn166 (Pr : Program) (W : CallP) (a0 a1 : PV) (σ : St) (R : Res → St → Prop) : Prop :=
oF (vLen .str a1 σ) fun v0 =>
callB W 162 [a0,v0] σ (fun v1 σ2 =>
bindS (vAppendT 23 1 1 v1 a1 σ2) fun v3 σ4 =>
wkR σ v3 σ4 R) (pNR R)
theorem fn166_eq (W : CallP) (a0 a1 : PV) (σ : St) (R : Res → St → Prop) : bodyC (algP W) Tryz.prog annF 166 [a0,a1] σ R = fn166 Tryz.prog W a0 a1 σ R := by kernel_rfl
def fn246 (Pr : Program) (W : CallP) (a0 a1 a2 : PV) (σ : St) (R : Res → St → Prop) : Prop :=
oF (vLen .sl a1 σ) fun v0 =>
callB W 150 [a0,v0] σ (fun v1 σ2 =>
oF (vLen .sl a1 σ2) fun v3 =>
packW [(2,a2),(12,a1),(13,v3),(14,(.int .i64 0))] fun x16 =>
Lfp σ (fun Φ4 x5 σ6 =>
oF (vBin none .lss (x5 14) (x5 13)) fun v7 =>
condW v7 (
oF (vIndex 1 (x5 12) (x5 14)) fun v8 =>
oF (vLoad false 1 v8 σ6) fun v9 =>
callG (algP W) Pr false (x5 2) [v9] σ6 (fun v10 σ11 =>
oF (vBin none .add (x5 14) (.int .i64 1)) fun v12 =>
packW [(2,(x5 2)),(12,(x5 12)),(13,(x5 13)),(14,v12)] fun x13 => Φ4 x13 σ11) (pNR R)) (
wkR σ (.tuple []) σ6 R)) x16 σ2) (pNR R)
theorem fn246_eq (W : CallP) (a0 a1 a2 : PV) (σ : St) (R : Res → St → Prop) : bodyC (algP W) Tryz.prog annF 246 [a0,a1,a2] σ R = fn246 Tryz.prog W a0 a1 a2 σ R := by kernel_rfl
def fn247 (Pr : Program) (W : CallP) (a0 a1 : PV) (σ : St) (R : Res → St → Prop) : Prop :=
oF (vConv .u64 a1) fun v0 =>
oF (vBin none .shl v0 (.int .u64 1)) fun v1 =>
CutW σ (fun J2 =>
oF (vBin none .lss a1 (.int .i64 0)) fun v5 =>
condW v5 (
oF (vUn .xor v1) fun v6 =>
packW [(0,a0),(4,v6)] fun x7 => J2 x7 σ) (
packW [(0,a0),(4,v1)] fun x8 => J2 x8 σ)) (fun x3 σ4 =>
CutW σ (fun J9 =>
packW [(0,(x3 0)),(4,(x3 4))] fun x30 =>
Lfp σ (fun Φ12 x13 σ14 =>
oF (vBin none .geq (x13 4) (.int .u64 128)) fun v15 =>
condW v15 (
oF (vNil (x13 0)) fun v16 =>
oF (vField 0 v16) fun v17 =>
oF (vLoad false 1 v17 σ14) fun v18 =>
oF (vConv .u8 (x13 4)) fun v19 =>
oF (vBin none .or v19 (.int .u8 128)) fun v20 =>
oF (vBuildSl 1 (List.replicate 1 (.int .u8 0)) [(0,v20)]) fun v21 =>
bindS (vAppendT 23 1 1 v18 (.list .full v21) σ14) fun v22 σ23 =>
oF (vNil (x13 0)) fun v24 =>
oF (vField 0 v24) fun v25 =>
oF (vStore 1 v25 v22 σ23) fun σ26 =>
oF (vBin none .shr (x13 4) (.int .u64 7)) fun v27 =>
packW [(0,(x13 0)),(4,v27)] fun x28 => Φ12 x28 σ26) (
packW [(0,(x13 0)),(4,(x13 4))] fun x29 => J9 x29 σ14)) x30 σ4) (fun x10 σ11 =>
oF (vNil (x10 0)) fun v31 =>
oF (vField 0 v31) fun v32 =>
oF (vLoad false 1 v32 σ11) fun v33 =>
oF (vConv .u8 (x10 4)) fun v34 =>
oF (vBuildSl 1 (List.replicate 1 (.int .u8 0)) [(0,v34)]) fun v35 =>
bindS (vAppendT 23 1 1 v33 (.list .full v35) σ11) fun v36 σ37 =>
oF (vNil (x10 0)) fun v38 =>
oF (vField 0 v38) fun v39 =>
oF (vStore 1 v39 v36 σ37) fun σ40 =>
wkR σ (.tuple []) σ40 R))
theorem fn247_eq (W : CallP) (a0 a1 : PV) (σ : St) (R : Res → St → Prop) : bodyC (algP W) Tryz.prog annF 247 [a0,a1] σ R = fn247 Tryz.prog W a0 a1 σ R := by kernel_rfl
def fn248 (Pr : Program) (W : CallP) (a0 a1 a2 : PV) (σ : St) (R : Res → St → Prop) : Prop :=
oF (vLen .sl a1 σ) fun v0 =>
callB W 150 [a0,v0] σ (fun v1 σ2 =>
oF (vLen .sl a1 σ2) fun v3 =>
packW [(2,a2),(12,a1),(13,v3),(14,(.int .i64 0))] fun x18 =>
Lfp σ (fun Φ4 x5 σ6 =>
oF (vBin none .lss (x5 14) (x5 13)) fun v7 =>
condW v7 (
oF (vIndex 3 (x5 12) (x5 14)) fun v8 =>
oF (vLoad true 3 v8 σ6) fun v9 =>
oF (vPut 3 (.agg [(.int .i64 0),(.int .i64 0),(.int .i64 0)]) 0 v9) fun z10 =>
oF (vPart true 3 z10 0) fun v11 =>
callG (algP W) Pr false (x5 2) [v11] σ6 (fun v12 σ13 =>
oF (vBin none .add (x5 14) (.int .i64 1)) fun v14 =>
packW [(2,(x5 2)),(12,(x5 12)),(13,(x5 13)),(14,v14)] fun x15 => Φ4 x15 σ13) (pNR R)) (
wkR σ (.tuple []) σ6 R)) x18 σ2) (pNR R)
theorem fn248_eq (W : CallP) (a0 a1 a2 : PV) (σ : St) (R : Res → St → Prop) : bodyC (algP W) Tryz.prog annF 248 [a0,a1,a2] σ R = fn248 Tryz.prog W a0 a1 a2 σ R := by kernel_rfl
def fn249 (Pr : Program) (W : CallP) (a0 a1 : PV) (σ : St) (R : Res → St → Prop) : Prop :=
oF (opC.vBoxAny a0) fun z0 =>
oF (vLoad false 1 a1 σ) fun v1 =>
oF (vPart false 1 z0.2 0) fun v2 =>
callB W 150 [v1,v2] σ (fun v3 σ4 =>
oF (vLoad false 1 a1 σ4) fun v5 =>
oF (vPart false 1 z0.2 1) fun v6 =>
callB W 150 [v5,v6] σ4 (fun v7 σ8 =>
oF (vLoad false 1 a1 σ8) fun v9 =>
oF (vPart false 1 z0.2 2) fun v10 =>
callB W 150 [v9,v10] σ8 (fun v11 σ12 =>
wkR σ (.tuple []) σ12 R) (pNR R)) (pNR R)) (pNR R)
theorem fn249_eq (W : CallP) (a0 a1 : PV) (σ : St) (R : Res → St → Prop) : bodyC (algP W) Tryz.prog annF 249 [a0,a1] σ R = fn249 Tryz.prog W a0 a1 σ R := by kernel_rfl
end Go.Proofs.YtgghfcchanilpaaGreatDoor
