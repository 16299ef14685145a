/- The bodies of some functions, as the abstract machine reads them (printed by wip/tools/Pr.lean), each held against the program's form by the kernel. -/
import Derived.KernelRfl
import Derived.Test.YtiniifbmeobmgaaGreatDoorAnn
import Derived.Test.YtiniifbmeobmgaaGreatDoorProg
set_option linter.unusedVariables false
namespace Go.Proofs.YtiniifbmeobmgaaGreatDoor
open Go Go.Abs

/-- environ/environlaw19.HyperLeaves -/
def fn12 (Pr : Program) (W : CallP) (a0 a1 a2 : PV) (σ : St) (R : Res → St → Prop) : Prop :=
bindO False (opC.vBoxAny a0) fun z0 =>
bindO False (opC.vBoxAny a1) fun z1 =>
callB W 13 [] σ (fun v2 σ3 =>
bindO False (vUn .not v2) fun v4 =>
condW v4 (
weakW σ (.bool false) σ3 fun v σ => R (.ret v) σ) (
bindO False (vPart true 2 z0.2 0) fun v5 =>
callB W 14 [v5] σ3 (fun v6 σ7 =>
bindO False (vUn .not v6) fun v8 =>
guardG False v8 false (fun J9 =>
bindO False (vPart true 4 z1.2 1) fun v12 =>
callB W 40 [v12] σ7 (fun v13 σ14 =>
bindO False (vUn .not v13) fun v15 =>
J9 (lookE [(25, (.loc 4 1)), (26, (.v v12)), (27, (.v v13)), (28, (.v v15))]) σ14) (fun e16 σ17 => R (.pan e16) σ17)) σ7 (fun y10 σ11 =>
bindO False (vPick v8 (.bool true) (y10 28).pv) fun v18 =>
guardG False v18 false (fun J19 =>
bindO False (vLen .str a2 σ11) fun v22 =>
bindO False (vBin none .gtr v22 (.int .i64 24)) fun v23 =>
J19 (lookE [(31, (.v a2)), (32, (.v v22)), (33, (.v v23))]) σ11) σ11 (fun y20 σ21 =>
bindO False (vPick v18 (.bool true) (y20 33).pv) fun v24 =>
condW v24 (
weakW σ (.bool true) σ21 fun v σ => R (.ret v) σ) (
CutW σ (fun J25 =>
bindO False (vPart true 2 z0.2 0) fun v28 =>
bindO False (vPart false 1 z1.2 0) fun v29 =>
bindO False (vPart true 4 z1.2 1) fun v30 =>
callB W 41 [v28, v29, v30] σ21 (fun v31 σ32 =>
bindO False (vExtract v31 0) fun v33 =>
bindO False (vExtract v31 1) fun v34 =>
bindO False (vBin none .eql v34 (.int .i64 0)) fun v35 =>
condW v35 (
bindO False (vPart true 4 z1.2 1) fun v36 =>
callB W 47 [v36] σ32 (fun v37 σ38 =>
callB W 44 [v33, v37] σ38 (fun v39 σ40 =>
bindO False (vUn .not v39) fun v41 =>
condW v41 (
weakW σ (.bool false) σ40 fun v σ => R (.ret v) σ) (
bindO False (vPart true 2 z0.2 0) fun v42 =>
bindO False (vPart true 4 z1.2 1) fun v43 =>
callB W 41 [v42, a2, v43] σ40 (fun v44 σ45 =>
bindO False (vExtract v44 0) fun v46 =>
bindO False (vExtract v44 1) fun v47 =>
bindO False (vPart false 1 z1.2 0) fun v48 =>
bindO False (vBin none .neq a2 v48) fun v49 =>
guardG False v49 true (fun J50 =>
bindO False (vBin none .neq v47 (.int .i64 14)) fun v53 =>
J50 (lookE [(65, (.v v47)), (66, (.v v53))]) σ45) σ45 (fun y51 σ52 =>
bindO False (vPick v49 (y51 66).pv (.bool false)) fun v54 =>
condW v54 (
weakW σ (.bool false) σ52 fun v σ => R (.ret v) σ) (
J25 (lookP [(2, a2), (3, z0.2)]) σ52))) (fun e55 σ56 => R (.pan e55) σ56))) (fun e57 σ58 => R (.pan e57) σ58)) (fun e59 σ60 => R (.pan e59) σ60)) (
J25 (lookP [(2, a2), (3, z0.2)]) σ32)) (fun e61 σ62 => R (.pan e61) σ62)) (fun x26 σ27 =>
CutW σ (fun J63 =>
bindO False (vPart false 1 (x26 3) 1) fun v66 =>
bindO False (vLen .sl v66 σ27) fun v67 =>
Lfp σ (fun Φ68 x69 σ70 =>
bindO False (vBin none .lss (x69 71) (x69 70)) fun v71 =>
condW v71 (
CutW σ (fun J72 =>
bindO False (vIndex 2 (x69 69) (x69 71)) fun v75 =>
bindO False (vLoad true 2 v75 σ70) fun v76 =>
bindO False (vPut 2 (.agg [(.list .nil []), (.list .nil [])]) 0 v76) fun z77 =>
bindO False (vPart true 2 (x69 3) 0) fun v78 =>
bindO False (vPart false 1 z77 0) fun v79 =>
callB W 23 [v78, v79, (x69 2), (.int .i64 50)] σ70 (fun v80 σ81 =>
bindO False (vExtract v80 0) fun v82 =>
bindO False (vExtract v80 1) fun v83 =>
bindO False (vBin none .neq v83 (.int .i64 0)) fun v84 =>
condW v84 (
J72 (lookP [(2, (x69 2)), (69, (x69 69)), (70, (x69 70)), (71, (x69 71)), (3, (x69 3))]) σ81) (
bindO False (vLen .sl v82 σ81) fun v85 =>
Lfp σ (fun Φ86 x87 σ88 =>
bindO False (vBin none .lss (x87 87) (x87 86)) fun v89 =>
condW v89 (
bindO False (vIndex 1 (x87 85) (x87 87)) fun v90 =>
bindO False (vLoad false 1 v90 σ88) fun v91 =>
bindO False (vPart false 1 (x87 12) 0) fun v92 =>
callB W 30 [v92, v91] σ88 (fun v93 σ94 =>
bindO False (vExtract v93 0) fun v95 =>
bindO False (vExtract v93 1) fun v96 =>
bindO False (vBin none .neq v95 (x87 2)) fun v97 =>
guardG False v97 false (fun J98 =>
bindO False (vBin none .neq v96 (.int .i64 0)) fun v101 =>
J98 (lookE [(102, (.v v96)), (103, (.v v101))]) σ94) σ94 (fun y99 σ100 =>
bindO False (vPick v97 (.bool true) (y99 103).pv) fun v102 =>
condW v102 (
weakW σ (.bool false) σ100 fun v σ => R (.ret v) σ) (
bindO False (vBin none .add (x87 87) (.int .i64 1)) fun v103 =>
Φ86 (lookP [(2, (x87 2)), (69, (x87 69)), (70, (x87 70)), (71, (x87 71)), (85, (x87 85)), (86, (x87 86)), (87, v103), (3, (x87 3)), (12, (x87 12))]) σ100))) (fun e104 σ105 => R (.pan e104) σ105)) (
J72 (lookP [(2, (x87 2)), (69, (x87 69)), (70, (x87 70)), (71, (x87 71)), (3, (x87 3))]) σ88)) (lookP [(2, (x69 2)), (69, (x69 69)), (70, (x69 70)), (71, (x69 71)), (85, v82), (86, v85), (87, (.int .i64 0)), (3, (x69 3)), (12, z77)]) σ81)) (fun e106 σ107 => R (.pan e106) σ107)) (fun x73 σ74 =>
bindO False (vBin none .add (x73 71) (.int .i64 1)) fun v108 =>
Φ68 (lookP [(2, (x73 2)), (69, (x73 69)), (70, (x73 70)), (71, v108), (3, (x73 3))]) σ74)) (
J63 (lookP []) σ70)) (lookP [(2, (x26 2)), (69, v66), (70, v67), (71, (.int .i64 0)), (3, (x26 3))]) σ27) (fun x64 σ65 =>
weakW σ (.bool true) σ65 fun v σ => R (.ret v) σ)))))) (fun e109 σ110 => R (.pan e109) σ110))) (fun e111 σ112 => R (.pan e111) σ112)

theorem fn12_eq (W : CallP) (a0 a1 a2 : PV) (σ : St) (R : Res → St → Prop) : bodyC (algP W) Tryz.prog annF 12 [a0, a1, a2] σ R = fn12 Tryz.prog W a0 a1 a2 σ R := by kernel_rfl

/-- environ/environlaw19.leaves -/
def fn47 (Pr : Program) (W : CallP) (a0 : PV) (σ : St) (R : Res → St → Prop) : Prop :=
bindO False (opC.vBoxAny a0) fun z0 =>
bindO False (vPart false 1 z0.2 0) fun v1 =>
bindO False (vBin none .eql v1 (.int .i64 (-1))) fun v2 =>
condW v2 (
bindO False (vPart false 1 z0.2 1) fun v3 =>
bindO False (vBuildSl 1 (List.replicate 1 (.str [])) [(0, v3)]) fun v4 =>
weakW σ (.list .full v4) σ fun v σ => R (.ret v) σ) (
CutW σ (fun J5 =>
bindO False (vPart false 1 z0.2 3) fun v8 =>
bindO False (vLen .sl v8 σ) fun v9 =>
Lfp σ (fun Φ10 x11 σ12 =>
bindO False (vBin none .lss (x11 15) (x11 14)) fun v13 =>
condW v13 (
bindO False (vIndex 4 (x11 13) (x11 15)) fun v14 =>
bindO False (vLoad true 4 v14 σ12) fun v15 =>
bindO False (vPut 4 (.agg [(.int .i64 0), (.str []), (.list .nil []), (.list .nil [])]) 0 v15) fun z16 =>
bindO False (vPart true 4 z16 0) fun v17 =>
callB W 47 [v17] σ12 (fun v18 σ19 =>
bindS (vAppend 1 16 (x11 3) v18 σ19) fun v20 σ21 =>
bindO False (vBin none .add (x11 15) (.int .i64 1)) fun v22 =>
Φ10 (lookP [(3, v20), (13, (x11 13)), (14, (x11 14)), (15, v22)]) σ21) (fun e23 σ24 => R (.pan e23) σ24)) (
J5 (lookP [(3, (x11 3))]) σ12)) (lookP [(3, (.list .nil [])), (13, v8), (14, v9), (15, (.int .i64 0))]) σ) (fun x6 σ7 =>
weakW σ (x6 3) σ7 fun v σ => R (.ret v) σ))

theorem fn47_eq (W : CallP) (a0 : PV) (σ : St) (R : Res → St → Prop) : bodyC (algP W) Tryz.prog annF 47 [a0] σ R = fn47 Tryz.prog W a0 σ R := by kernel_rfl

end Go.Proofs.YtiniifbmeobmgaaGreatDoor
