/- The bodies of some functions, as the abstract machine reads them (printed by wip/tools/Pr.lean), each held against the program's form by the kernel. -/
import Derived.Test.YtiniifbmeobmgaaGreatDoorAnn
import Derived.Test.YtiniifbmeobmgaaGreatDoorProg
import Derived.KernelRfl
set_option linter.unusedVariables false
namespace Go.Proofs.YtiniifbmeobmgaaGreatDoor
open Go Go.Abs

/-- environ/hyper.Write -/
def fn32 (Pr : Program) (W : CallP) (a0 : PV) (σ : St) (R : Res → St → Prop) : Prop :=
bindO False (opC.vBoxAny a0) fun z0 =>
bindO False (vPart true 2 z0.2 0) fun v1 =>
callB W 15 [v1] σ (fun v2 σ3 =>
bindO False (vBin none .neq v2 (.int .i64 0)) fun v4 =>
condW v4 (
weakW σ (.tuple [(.str []), v2]) σ3 fun v σ => R (.ret v) σ) (
newT 717 2 (.agg [.nilptr, (.list .nil [])]) σ3 fun p5 σ6 =>
bindO False (vPart false 1 z0.2 0) fun v7 =>
bindO False (vLen .sl v7 σ6) fun v8 =>
Lfp σ (fun Φ9 x10 σ11 =>
bindO False (vBin none .lss (x10 24) (x10 23)) fun v12 =>
condW v12 (
bindO False (vIndex 2 (x10 22) (x10 24)) fun v13 =>
bindO False (vLoad true 2 v13 σ11) fun v14 =>
bindO False (vPut 2 (.agg [(.str []), (.list .nil [])]) 0 v14) fun z15 =>
bindO False (vPart false 1 z15 1) fun v16 =>
bindO False (vLen .sl v16 σ11) fun v17 =>
Lfp σ (fun Φ18 x19 σ20 =>
bindO False (vBin none .lss (x19 31) (x19 30)) fun v21 =>
condW v21 (
bindO False (vIndex 1 (x19 29) (x19 31)) fun v22 =>
bindO False (vLoad false 1 v22 σ20) fun v23 =>
callB W 103 [v23] σ20 (fun v24 σ25 =>
callB W 102 [v24] σ25 (fun v26 σ27 =>
bindO False (vBuildSl 1 (List.replicate 1 (.str [])) [(0, v26)]) fun v28 =>
bindS (vAppend 1 16 (x19 8) (.list .full v28) σ27) fun v29 σ30 =>
bindO False (vBin none .add (x19 31) (.int .i64 1)) fun v31 =>
Φ18 (lookP [(5, (x19 5)), (8, v29), (22, (x19 22)), (23, (x19 23)), (24, (x19 24)), (29, (x19 29)), (30, (x19 30)), (31, v31), (1, (x19 1)), (7, (x19 7))]) σ30) (fun e32 σ33 => R (.pan e32) σ33)) (fun e34 σ35 => R (.pan e34) σ35)) (
bindO False (vPart false 1 (x19 7) 0) fun v36 =>
bindO False (vBin none .add v36 (.str [32, 58, 58, 32])) fun v37 =>
callB W 98 [(x19 8), (.str [32, 59, 32])] σ20 (fun v38 σ39 =>
bindO False (vBin none .add v37 v38) fun v40 =>
bindO False (vBin none .add v40 (.str [32, 46, 10])) fun v41 =>
callB W 104 [(x19 5), v41] σ39 (fun v42 σ43 =>
bindO False (vBin none .add (x19 24) (.int .i64 1)) fun v44 =>
Φ9 (lookP [(5, (x19 5)), (22, (x19 22)), (23, (x19 23)), (24, v44), (1, (x19 1))]) σ43) (fun e45 σ46 => R (.pan e45) σ46)) (fun e47 σ48 => R (.pan e47) σ48))) (lookP [(5, (x10 5)), (8, (.list .nil [])), (22, (x10 22)), (23, (x10 23)), (24, (x10 24)), (29, v16), (30, v17), (31, (.int .i64 0)), (1, (x10 1)), (7, z15)]) σ11) (
bindO False (vPart false 1 (x10 1) 1) fun v49 =>
bindO False (vLen .sl v49 σ11) fun v50 =>
Lfp σ (fun Φ51 x52 σ53 =>
bindO False (vBin none .lss (x52 54) (x52 53)) fun v54 =>
condW v54 (
bindO False (vIndex 2 (x52 52) (x52 54)) fun v55 =>
bindO False (vLoad true 2 v55 σ53) fun v56 =>
bindO False (vPut 2 (.agg [(.list .nil []), (.list .nil [])]) 0 v56) fun z57 =>
bindO False (vPart false 1 z57 1) fun v58 =>
bindO False (vLen .sl v58 σ53) fun v59 =>
Lfp σ (fun Φ60 x61 σ62 =>
bindO False (vBin none .lss (x61 61) (x61 60)) fun v63 =>
condW v63 (
bindO False (vIndex 1 (x61 59) (x61 61)) fun v64 =>
bindO False (vLoad false 1 v64 σ62) fun v65 =>
callB W 103 [v65] σ62 (fun v66 σ67 =>
bindO False (vBuildSl 1 (List.replicate 1 (.str [])) [(0, v66)]) fun v68 =>
bindS (vAppend 1 16 (x61 13) (.list .full v68) σ67) fun v69 σ70 =>
bindO False (vBin none .add (x61 61) (.int .i64 1)) fun v71 =>
Φ60 (lookP [(5, (x61 5)), (13, v69), (52, (x61 52)), (53, (x61 53)), (54, (x61 54)), (59, (x61 59)), (60, (x61 60)), (61, v71), (12, (x61 12))]) σ70) (fun e72 σ73 => R (.pan e72) σ73)) (
bindO False (vPart false 1 (x61 12) 0) fun v74 =>
callB W 103 [v74] σ62 (fun v75 σ76 =>
bindO False (vBin none .add v75 (.str [32, 58, 32])) fun v77 =>
callB W 98 [(x61 13), (.str [44, 32])] σ76 (fun v78 σ79 =>
callB W 102 [v78] σ79 (fun v80 σ81 =>
bindO False (vBin none .add v77 v80) fun v82 =>
bindO False (vBin none .add v82 (.str [32, 46, 10])) fun v83 =>
callB W 104 [(x61 5), v83] σ81 (fun v84 σ85 =>
bindO False (vBin none .add (x61 54) (.int .i64 1)) fun v86 =>
Φ51 (lookP [(5, (x61 5)), (52, (x61 52)), (53, (x61 53)), (54, v86)]) σ85) (fun e87 σ88 => R (.pan e87) σ88)) (fun e89 σ90 => R (.pan e89) σ90)) (fun e91 σ92 => R (.pan e91) σ92)) (fun e93 σ94 => R (.pan e93) σ94))) (lookP [(5, (x52 5)), (13, (.list .nil [])), (52, (x52 52)), (53, (x52 53)), (54, (x52 54)), (59, v58), (60, v59), (61, (.int .i64 0)), (12, z57)]) σ53) (
callB W 105 [(x52 5)] σ53 (fun v95 σ96 =>
weakW σ (.tuple [v95, (.int .i64 0)]) σ96 fun v σ => R (.ret v) σ) (fun e97 σ98 => R (.pan e97) σ98))) (lookP [(5, (x10 5)), (52, v49), (53, v50), (54, (.int .i64 0))]) σ11)) (lookP [(5, p5), (22, v7), (23, v8), (24, (.int .i64 0)), (1, z0.2)]) σ6)) (fun e99 σ100 => R (.pan e99) σ100)

theorem fn32_eq (W : CallP) (a0 : PV) (σ : St) (R : Res → St → Prop) : bodyC (algP W) Tryz.prog annF 32 [a0] σ R = fn32 Tryz.prog W a0 σ R := by kernel_rfl

/-- environ/environref19.Write -/
def fn33 (Pr : Program) (W : CallP) (a0 : PV) (σ : St) (R : Res → St → Prop) : Prop :=
bindO False (opC.vBoxAny a0) fun z0 =>
bindO False (vPart true 2 z0.2 0) fun v1 =>
callB W 16 [v1] σ (fun v2 σ3 =>
bindO False (vBin none .neq v2 (.int .i64 0)) fun v4 =>
condW v4 (
weakW σ (.tuple [(.str []), v2]) σ3 fun v σ => R (.ret v) σ) (
CutW σ (fun J5 =>
Lfp σ (fun Φ8 x9 σ10 =>
bindO False (vPart false 1 (x9 1) 0) fun v11 =>
bindO False (vLen .sl v11 σ10) fun v12 =>
bindO False (vBin none .lss (x9 6) v12) fun v13 =>
condW v13 (
CutW σ (fun J14 =>
bindO False (vPart false 1 (x9 1) 0) fun v17 =>
bindO False (vIndex 2 v17 (x9 6)) fun v18 =>
bindO False (vField 0 v18) fun v19 =>
bindO False (vLoad false 1 v19 σ10) fun v20 =>
bindO False (vBin none .add (x9 5) v20) fun v21 =>
bindO False (vBin none .add v21 (.str [32, 58, 58, 32])) fun v22 =>
CutW σ (fun J23 =>
Lfp σ (fun Φ26 x27 σ28 =>
bindO False (vPart false 1 (x27 1) 0) fun v29 =>
bindO False (vIndex 2 v29 (x27 6)) fun v30 =>
bindO False (vField 1 v30) fun v31 =>
bindO False (vLoad false 1 v31 σ28) fun v32 =>
bindO False (vLen .sl v32 σ28) fun v33 =>
bindO False (vBin none .lss (x27 7) v33) fun v34 =>
condW v34 (
CutW σ (fun J35 =>
CutW σ (fun J38 =>
bindO False (vBin none .gtr (x27 7) (.int .i64 0)) fun v41 =>
condW v41 (
bindO False (vBin none .add (x27 5) (.str [32, 59, 32])) fun v42 =>
J38 (lookP [(5, v42), (6, (x27 6)), (7, (x27 7)), (1, (x27 1))]) σ28) (
J38 (lookP [(5, (x27 5)), (6, (x27 6)), (7, (x27 7)), (1, (x27 1))]) σ28)) (fun x39 σ40 =>
bindO False (vPart false 1 (x39 1) 0) fun v43 =>
bindO False (vIndex 2 v43 (x39 6)) fun v44 =>
bindO False (vField 1 v44) fun v45 =>
bindO False (vLoad false 1 v45 σ40) fun v46 =>
bindO False (vIndex 1 v46 (x39 7)) fun v47 =>
bindO False (vLoad false 1 v47 σ40) fun v48 =>
callB W 106 [v48] σ40 (fun v49 σ50 =>
bindO False (vBin none .add (x39 5) v49) fun v51 =>
J35 (lookP [(5, v51), (6, (x39 6)), (7, (x39 7)), (1, (x39 1))]) σ50) (fun e52 σ53 => R (.pan e52) σ53))) (fun x36 σ37 =>
bindO False (vBin none .add (x36 7) (.int .i64 1)) fun v54 =>
Φ26 (lookP [(5, (x36 5)), (6, (x36 6)), (7, v54), (1, (x36 1))]) σ37)) (
J23 (lookP [(5, (x27 5)), (6, (x27 6)), (1, (x27 1))]) σ28)) (lookP [(5, v22), (6, (x9 6)), (7, (.int .i64 0)), (1, (x9 1))]) σ10) (fun x24 σ25 =>
bindO False (vBin none .add (x24 5) (.str [32, 46, 10])) fun v55 =>
J14 (lookP [(5, v55), (6, (x24 6)), (1, (x24 1))]) σ25)) (fun x15 σ16 =>
bindO False (vBin none .add (x15 6) (.int .i64 1)) fun v56 =>
Φ8 (lookP [(5, (x15 5)), (6, v56), (1, (x15 1))]) σ16)) (
J5 (lookP [(5, (x9 5)), (1, (x9 1))]) σ10)) (lookP [(5, (.str [])), (6, (.int .i64 0)), (1, z0.2)]) σ3) (fun x6 σ7 =>
CutW σ (fun J57 =>
Lfp σ (fun Φ60 x61 σ62 =>
bindO False (vPart false 1 (x61 1) 1) fun v63 =>
bindO False (vLen .sl v63 σ62) fun v64 =>
bindO False (vBin none .lss (x61 8) v64) fun v65 =>
condW v65 (
CutW σ (fun J66 =>
bindO False (vPart false 1 (x61 1) 1) fun v69 =>
bindO False (vIndex 2 v69 (x61 8)) fun v70 =>
bindO False (vField 0 v70) fun v71 =>
bindO False (vLoad false 1 v71 σ62) fun v72 =>
callB W 106 [v72] σ62 (fun v73 σ74 =>
bindO False (vBin none .add (x61 5) v73) fun v75 =>
bindO False (vBin none .add v75 (.str [32, 58, 32])) fun v76 =>
CutW σ (fun J77 =>
Lfp σ (fun Φ80 x81 σ82 =>
bindO False (vPart false 1 (x81 1) 1) fun v83 =>
bindO False (vIndex 2 v83 (x81 8)) fun v84 =>
bindO False (vField 1 v84) fun v85 =>
bindO False (vLoad false 1 v85 σ82) fun v86 =>
bindO False (vLen .sl v86 σ82) fun v87 =>
bindO False (vBin none .lss (x81 9) v87) fun v88 =>
condW v88 (
CutW σ (fun J89 =>
CutW σ (fun J92 =>
bindO False (vBin none .gtr (x81 9) (.int .i64 0)) fun v95 =>
condW v95 (
bindO False (vBin none .add (x81 5) (.str [44, 32])) fun v96 =>
J92 (lookP [(5, v96), (8, (x81 8)), (9, (x81 9)), (1, (x81 1))]) σ82) (
J92 (lookP [(5, (x81 5)), (8, (x81 8)), (9, (x81 9)), (1, (x81 1))]) σ82)) (fun x93 σ94 =>
bindO False (vPart false 1 (x93 1) 1) fun v97 =>
bindO False (vIndex 2 v97 (x93 8)) fun v98 =>
bindO False (vField 1 v98) fun v99 =>
bindO False (vLoad false 1 v99 σ94) fun v100 =>
bindO False (vIndex 1 v100 (x93 9)) fun v101 =>
bindO False (vLoad false 1 v101 σ94) fun v102 =>
callB W 106 [v102] σ94 (fun v103 σ104 =>
bindO False (vBin none .add (x93 5) v103) fun v105 =>
J89 (lookP [(5, v105), (8, (x93 8)), (9, (x93 9)), (1, (x93 1))]) σ104) (fun e106 σ107 => R (.pan e106) σ107))) (fun x90 σ91 =>
bindO False (vBin none .add (x90 9) (.int .i64 1)) fun v108 =>
Φ80 (lookP [(5, (x90 5)), (8, (x90 8)), (9, v108), (1, (x90 1))]) σ91)) (
J77 (lookP [(5, (x81 5)), (8, (x81 8)), (1, (x81 1))]) σ82)) (lookP [(5, v76), (8, (x61 8)), (9, (.int .i64 0)), (1, (x61 1))]) σ74) (fun x78 σ79 =>
CutW σ (fun J109 =>
bindO False (vPart false 1 (x78 1) 1) fun v112 =>
bindO False (vIndex 2 v112 (x78 8)) fun v113 =>
bindO False (vField 1 v113) fun v114 =>
bindO False (vLoad false 1 v114 σ79) fun v115 =>
bindO False (vLen .sl v115 σ79) fun v116 =>
bindO False (vBin none .eql v116 (.int .i64 0)) fun v117 =>
condW v117 (
bindO False (vBin none .add (x78 5) (.str [69, 77, 80, 84, 89])) fun v118 =>
J109 (lookP [(5, v118), (8, (x78 8)), (1, (x78 1))]) σ79) (
J109 (lookP [(5, (x78 5)), (8, (x78 8)), (1, (x78 1))]) σ79)) (fun x110 σ111 =>
bindO False (vBin none .add (x110 5) (.str [32, 46, 10])) fun v119 =>
J66 (lookP [(5, v119), (8, (x110 8)), (1, (x110 1))]) σ111))) (fun e120 σ121 => R (.pan e120) σ121)) (fun x67 σ68 =>
bindO False (vBin none .add (x67 8) (.int .i64 1)) fun v122 =>
Φ60 (lookP [(5, (x67 5)), (8, v122), (1, (x67 1))]) σ68)) (
J57 (lookP [(5, (x61 5))]) σ62)) (lookP [(5, (x6 5)), (8, (.int .i64 0)), (1, (x6 1))]) σ7) (fun x58 σ59 =>
weakW σ (.tuple [(x58 5), (.int .i64 0)]) σ59 fun v σ => R (.ret v) σ)))) (fun e123 σ124 => R (.pan e123) σ124)

theorem fn33_eq (W : CallP) (a0 : PV) (σ : St) (R : Res → St → Prop) : bodyC (algP W) Tryz.prog annF 33 [a0] σ R = fn33 Tryz.prog W a0 σ R := by kernel_rfl

/-- environ/hyper.orEmpty -/
def fn102 (Pr : Program) (W : CallP) (a0 : PV) (σ : St) (R : Res → St → Prop) : Prop :=
bindO False (vBin none .eql a0 (.str [])) fun v0 =>
condW v0 (
weakW σ (.str [69, 77, 80, 84, 89]) σ fun v σ => R (.ret v) σ) (
weakW σ a0 σ fun v σ => R (.ret v) σ)

theorem fn102_eq (W : CallP) (a0 : PV) (σ : St) (R : Res → St → Prop) : bodyC (algP W) Tryz.prog annF 102 [a0] σ R = fn102 Tryz.prog W a0 σ R := by kernel_rfl

/-- environ/hyper.text -/
def fn103 (Pr : Program) (W : CallP) (a0 : PV) (σ : St) (R : Res → St → Prop) : Prop :=
bindO False (vLen .sl a0 σ) fun v0 =>
Lfp σ (fun Φ1 x2 σ3 =>
bindO False (vBin none .lss (x2 8) (x2 7)) fun v4 =>
condW v4 (
bindO False (vIndex 2 (x2 6) (x2 8)) fun v5 =>
bindO False (vLoad true 2 v5 σ3) fun v6 =>
bindO False (vPut 2 (.agg [(.bool false), (.str [])]) 0 v6) fun z7 =>
bindO False (vPart false 1 z7 1) fun v8 =>
bindO False (vBuildSl 1 (List.replicate 1 (.str [])) [(0, v8)]) fun v9 =>
bindS (vAppend 1 16 (x2 3) (.list .full v9) σ3) fun v10 σ11 =>
bindO False (vBin none .add (x2 8) (.int .i64 1)) fun v12 =>
Φ1 (lookP [(3, v10), (6, (x2 6)), (7, (x2 7)), (8, v12)]) σ11) (
callB W 98 [(x2 3), (.str [32])] σ3 (fun v13 σ14 =>
weakW σ v13 σ14 fun v σ => R (.ret v) σ) (fun e15 σ16 => R (.pan e15) σ16))) (lookP [(3, (.list .nil [])), (6, a0), (7, v0), (8, (.int .i64 0))]) σ

theorem fn103_eq (W : CallP) (a0 : PV) (σ : St) (R : Res → St → Prop) : bodyC (algP W) Tryz.prog annF 103 [a0] σ R = fn103 Tryz.prog W a0 σ R := by kernel_rfl

/-- (*strings.Builder).WriteString -/
def fn104 (Pr : Program) (W : CallP) (a0 a1 : PV) (σ : St) (R : Res → St → Prop) : Prop :=
callB W 148 [a0] σ (fun v0 σ1 =>
bindO False (vNil a0) fun v2 =>
bindO False (vField 1 v2) fun v3 =>
bindO False (vLoad false 1 v3 σ1) fun v4 =>
bindS (vAppendT 23 1 1 v4 a1 σ1) fun v5 σ6 =>
bindO False (vNil a0) fun v7 =>
bindO False (vField 1 v7) fun v8 =>
bindO False (vStore 1 v8 v5 σ6) fun σ9 =>
bindO False (vLen .str a1 σ9) fun v10 =>
weakW σ (.tuple [v10, .nilIface]) σ9 fun v σ => R (.ret v) σ) (fun e11 σ12 => R (.pan e11) σ12)

theorem fn104_eq (W : CallP) (a0 a1 : PV) (σ : St) (R : Res → St → Prop) : bodyC (algP W) Tryz.prog annF 104 [a0, a1] σ R = fn104 Tryz.prog W a0 a1 σ R := by kernel_rfl

/-- environ/environref19.text -/
def fn106 (Pr : Program) (W : CallP) (a0 : PV) (σ : St) (R : Res → St → Prop) : Prop :=
bindO False (vLen .sl a0 σ) fun v0 =>
bindO False (vBin none .eql v0 (.int .i64 0)) fun v1 =>
condW v1 (
weakW σ (.str [69, 77, 80, 84, 89]) σ fun v σ => R (.ret v) σ) (
CutW σ (fun J2 =>
Lfp σ (fun Φ5 x6 σ7 =>
bindO False (vLen .sl (x6 0) σ7) fun v8 =>
bindO False (vBin none .lss (x6 4) v8) fun v9 =>
condW v9 (
CutW σ (fun J10 =>
CutW σ (fun J13 =>
bindO False (vBin none .gtr (x6 4) (.int .i64 0)) fun v16 =>
condW v16 (
bindO False (vBin none .add (x6 3) (.str [32])) fun v17 =>
J13 (lookP [(0, (x6 0)), (3, v17), (4, (x6 4))]) σ7) (
J13 (lookP [(0, (x6 0)), (3, (x6 3)), (4, (x6 4))]) σ7)) (fun x14 σ15 =>
bindO False (vIndex 2 (x14 0) (x14 4)) fun v18 =>
bindO False (vField 1 v18) fun v19 =>
bindO False (vLoad false 1 v19 σ15) fun v20 =>
bindO False (vBin none .add (x14 3) v20) fun v21 =>
J10 (lookP [(0, (x14 0)), (3, v21), (4, (x14 4))]) σ15)) (fun x11 σ12 =>
bindO False (vBin none .add (x11 4) (.int .i64 1)) fun v22 =>
Φ5 (lookP [(0, (x11 0)), (3, (x11 3)), (4, v22)]) σ12)) (
J2 (lookP [(3, (x6 3))]) σ7)) (lookP [(0, a0), (3, (.str [])), (4, (.int .i64 0))]) σ) (fun x3 σ4 =>
weakW σ (x3 3) σ4 fun v σ => R (.ret v) σ))

theorem fn106_eq (W : CallP) (a0 : PV) (σ : St) (R : Res → St → Prop) : bodyC (algP W) Tryz.prog annF 106 [a0] σ R = fn106 Tryz.prog W a0 σ R := by kernel_rfl

end Go.Proofs.YtiniifbmeobmgaaGreatDoor
