/- The bodies of some functions, as the abstract machine reads them (printed by wip/tools/Pr.lean), each held against the program's form by the kernel. -/
import Derived.KernelRfl
import Derived.Test.YtiniifbmeobmgaaGreatDoorAnn
import Derived.Test.YtiniifbmeobmgaaGreatDoorProg
set_option linter.unusedVariables false
namespace Go.Proofs.YtiniifbmeobmgaaGreatDoor
open Go Go.Abs

/-- environ/environlaw19.HyperChecks -/
def fn3 (Pr : Program) (W : CallP) (a0 : PV) (σ : St) (R : Res → St → Prop) : Prop :=
bindO False (opC.vBoxAny a0) fun z0 =>
callB W 13 [] σ (fun v1 σ2 =>
bindO False (vUn .not v1) fun v3 =>
condW v3 (
weakW σ (.bool false) σ2 fun v σ => R (.ret v) σ) (
bindO False (vPart true 2 z0.2 0) fun v4 =>
callB W 14 [v4] σ2 (fun v5 σ6 =>
bindO False (vUn .not v5) fun v7 =>
condW v7 (
bindO False (vPart false 1 z0.2 0) fun v8 =>
bindO False (vLen .sl v8 σ6) fun v9 =>
bindO False (vBin none .leq v9 (.int .i64 100)) fun v10 =>
guardG False v10 true (fun J11 =>
bindO False (vPart false 1 z0.2 1) fun v14 =>
bindO False (vLen .sl v14 σ6) fun v15 =>
bindO False (vBin none .leq v15 (.int .i64 500)) fun v16 =>
J11 (lookE [(13, (.loc 1 1)), (14, (.v v14)), (15, (.v v15)), (16, (.v v16))]) σ6) σ6 (fun y12 σ13 =>
bindO False (vPick v10 (y12 16).pv (.bool false)) fun v17 =>
guardG False v17 false (fun J18 =>
bindO False (vPart true 2 z0.2 0) fun v21 =>
callB W 15 [v21] σ13 (fun v22 σ23 =>
bindO False (vBin none .eql v22 (.int .i64 3)) fun v24 =>
J18 (lookE [(19, (.v v21)), (20, (.v v22)), (21, (.v v24))]) σ23) (fun e25 σ26 => R (.pan e25) σ26)) σ13 (fun y19 σ20 =>
bindO False (vPick v17 (.bool true) (y19 21).pv) fun v27 =>
weakW σ v27 σ20 fun v σ => R (.ret v) σ))) (
bindO False (vPart true 2 z0.2 0) fun v28 =>
bindO False (vPart true 2 z0.2 0) fun v29 =>
callB W 15 [v28] σ6 (fun v30 σ31 =>
callB W 17 [v29] σ31 (fun v32 σ33 =>
callB W 16 [v32] σ33 (fun v34 σ35 =>
bindO False (vBin none .eql v30 v34) fun v36 =>
weakW σ v36 σ35 fun v σ => R (.ret v) σ) (fun e37 σ38 => R (.pan e37) σ38)) (fun e39 σ40 => R (.pan e39) σ40)) (fun e41 σ42 => R (.pan e41) σ42))) (fun e43 σ44 => R (.pan e43) σ44))) (fun e45 σ46 => R (.pan e45) σ46)

theorem fn3_eq (W : CallP) (a0 : PV) (σ : St) (R : Res → St → Prop) : bodyC (algP W) Tryz.prog annF 3 [a0] σ R = fn3 Tryz.prog W a0 σ R := by kernel_rfl

/-- environ/environlaw19.Small -/
def fn14 (Pr : Program) (W : CallP) (a0 : PV) (σ : St) (R : Res → St → Prop) : Prop :=
bindO False (opC.vBoxAny a0) fun z0 =>
newW 1 .nilfunc σ fun p1 σ2 =>
bindO False (vStore 1 p1 (.func 49 []) σ2) fun σ3 =>
newW 1 .nilfunc σ3 fun p4 σ5 =>
bindO False (vStore 1 p4 (.func 50 [p1]) σ5) fun σ6 =>
bindO False (vPart false 1 z0.2 0) fun v7 =>
bindO False (vLen .sl v7 σ6) fun v8 =>
bindO False (vBin none .leq v8 (.int .i64 8)) fun v9 =>
guardG False v9 true (fun J10 =>
bindO False (vPart false 1 z0.2 1) fun v13 =>
bindO False (vLen .sl v13 σ6) fun v14 =>
bindO False (vBin none .leq v14 (.int .i64 20)) fun v15 =>
J10 (lookE [(11, (.loc 1 1)), (12, (.v v13)), (13, (.v v14)), (14, (.v v15))]) σ6) σ6 (fun y11 σ12 =>
bindO False (vPick v9 (y11 14).pv (.bool false)) fun v16 =>
guardG False v16 true (fun J17 =>
bindO False (vPart false 1 z0.2 0) fun v20 =>
callB W 35 [v20, (.func 52 [p4])] σ12 (fun v21 σ22 =>
bindO False (vUn .not v21) fun v23 =>
J17 (lookE [(17, (.loc 1 0)), (18, (.v v20)), (19, (.v (.func 52 [p4]))), (20, (.v v21)), (21, (.v v23))]) σ22) (fun e24 σ25 => R (.pan e24) σ25)) σ12 (fun y18 σ19 =>
bindO False (vPick v16 (y18 21).pv (.bool false)) fun v26 =>
guardG False v26 true (fun J27 =>
bindO False (vPart false 1 z0.2 1) fun v30 =>
callB W 53 [v30, (.func 54 [p1, p4])] σ19 (fun v31 σ32 =>
bindO False (vUn .not v31) fun v33 =>
J27 (lookE [(24, (.loc 1 1)), (25, (.v v30)), (26, (.v (.func 54 [p1, p4]))), (27, (.v v31)), (28, (.v v33))]) σ32) (fun e34 σ35 => R (.pan e34) σ35)) σ19 (fun y28 σ29 =>
bindO False (vPick v26 (y28 28).pv (.bool false)) fun v36 =>
weakW σ v36 σ29 fun v σ => R (.ret v) σ)))

theorem fn14_eq (W : CallP) (a0 : PV) (σ : St) (R : Res → St → Prop) : bodyC (algP W) Tryz.prog annF 14 [a0] σ R = fn14 Tryz.prog W a0 σ R := by kernel_rfl

/-- environ/hyper.Check -/
def fn15 (Pr : Program) (W : CallP) (a0 : PV) (σ : St) (R : Res → St → Prop) : Prop :=
bindO False (opC.vBoxAny a0) fun z0 =>
bindO False (vPart false 1 z0.2 0) fun v1 =>
bindO False (vLen .sl v1 σ) fun v2 =>
bindO False (vBin none .gtr v2 (.int .i64 100)) fun v3 =>
guardG False v3 false (fun J4 =>
bindO False (vPart false 1 z0.2 1) fun v7 =>
bindO False (vLen .sl v7 σ) fun v8 =>
bindO False (vBin none .gtr v8 (.int .i64 500)) fun v9 =>
J4 (lookE [(20, (.loc 1 1)), (21, (.v v7)), (22, (.v v8)), (23, (.v v9))]) σ) σ (fun y5 σ6 =>
bindO False (vPick v3 (.bool true) (y5 23).pv) fun v10 =>
guardG False v10 false (fun J11 =>
bindO False (vPart false 1 z0.2 0) fun v14 =>
callB W 35 [v14, (.func 55 [])] σ6 (fun v15 σ16 =>
J11 (lookE [(26, (.loc 1 0)), (27, (.v v14)), (28, (.v v15))]) σ16) (fun e17 σ18 => R (.pan e17) σ18)) σ6 (fun y12 σ13 =>
bindO False (vPick v10 (.bool true) (y12 28).pv) fun v19 =>
guardG False v19 false (fun J20 =>
bindO False (vPart false 1 z0.2 1) fun v23 =>
callB W 53 [v23, (.func 56 [])] σ13 (fun v24 σ25 =>
J20 (lookE [(31, (.loc 1 1)), (32, (.v v23)), (33, (.v v24))]) σ25) (fun e26 σ27 => R (.pan e26) σ27)) σ13 (fun y21 σ22 =>
bindO False (vPick v19 (.bool true) (y21 33).pv) fun v28 =>
condW v28 (
weakW σ (.int .i64 3) σ22 fun v σ => R (.ret v) σ) (
newMapW σ22 fun v29 σ30 =>
newW 1 .nilmap σ30 fun p31 σ32 =>
bindO False (vStore 1 p31 v29 σ32) fun σ33 =>
bindO False (vPart false 1 z0.2 0) fun v34 =>
bindO False (vLen .sl v34 σ33) fun v35 =>
Lfp σ (fun Φ36 x37 σ38 =>
bindO False (vBin none .lss (x37 39) (x37 38)) fun v39 =>
condW v39 (
bindO False (vIndex 2 (x37 37) (x37 39)) fun v40 =>
bindO False (vLoad true 2 v40 σ38) fun v41 =>
bindO False (vPut 2 (.agg [(.str []), (.list .nil [])]) 0 v41) fun z42 =>
bindO False (vPart false 1 z42 0) fun v43 =>
callB W 57 [v43] σ38 (fun v44 σ45 =>
bindO False (vUn .not v44) fun v46 =>
condW v46 (
weakW σ (.int .i64 8) σ45 fun v σ => R (.ret v) σ) (
bindO False (vLoad false 1 (x37 3) σ45) fun v47 =>
bindO False (vPart false 1 z42 0) fun v48 =>
bindO False (vLookup .str (.bool false) false v47 v48 σ45) fun v49 =>
condW v49 (
weakW σ (.int .i64 5) σ45 fun v σ => R (.ret v) σ) (
bindO False (vPart false 1 z42 1) fun v50 =>
bindO False (vLen .sl v50 σ45) fun v51 =>
bindO False (vBin none .eql v51 (.int .i64 0)) fun v52 =>
condW v52 (
weakW σ (.int .i64 12) σ45 fun v σ => R (.ret v) σ) (
bindO False (vPart false 1 z42 1) fun v53 =>
callB W 51 [v53, (.func 58 [])] σ45 (fun v54 σ55 =>
condW v54 (
weakW σ (.int .i64 8) σ55 fun v σ => R (.ret v) σ) (
bindO False (vLoad false 1 (x37 3) σ55) fun v56 =>
bindO False (vPart false 1 z42 0) fun v57 =>
bindO False (vMapSet .str v56 v57 (.bool true) σ55) fun σ58 =>
bindO False (vBin none .add (x37 39) (.int .i64 1)) fun v59 =>
Φ36 (lookP [(3, (x37 3)), (37, (x37 37)), (38, (x37 38)), (39, v59), (1, (x37 1))]) σ58)) (fun e60 σ61 => R (.pan e60) σ61))))) (fun e62 σ63 => R (.pan e62) σ63)) (
bindO False (vPart false 1 (x37 1) 1) fun v64 =>
bindO False (vLen .sl v64 σ38) fun v65 =>
Lfp σ (fun Φ66 x67 σ68 =>
bindO False (vBin none .lss (x67 69) (x67 68)) fun v69 =>
condW v69 (
bindO False (vIndex 2 (x67 67) (x67 69)) fun v70 =>
bindO False (vLoad true 2 v70 σ68) fun v71 =>
bindO False (vPut 2 (.agg [(.list .nil []), (.list .nil [])]) 0 v71) fun z72 =>
bindO False (vPart true 2 z72 0) fun v73 =>
callB W 60 [v73] σ68 (fun v74 σ75 =>
bindO False (vLen .sl v74 σ75) fun v76 =>
Lfp σ (fun Φ77 x78 σ79 =>
bindO False (vBin none .lss (x78 76) (x78 75)) fun v80 =>
condW v80 (
bindO False (vIndex 1 (x78 74) (x78 76)) fun v81 =>
bindO False (vLoad false 1 v81 σ79) fun v82 =>
bindO False (vLen .sl v82 σ79) fun v83 =>
bindO False (vBin none .eql v83 (.int .i64 0)) fun v84 =>
condW v84 (
weakW σ (.int .i64 12) σ79 fun v σ => R (.ret v) σ) (
callB W 59 [v82, (.bool true)] σ79 (fun v85 σ86 =>
bindO False (vUn .not v85) fun v87 =>
condW v87 (
weakW σ (.int .i64 8) σ86 fun v σ => R (.ret v) σ) (
bindO False (vBin none .add (x78 76) (.int .i64 1)) fun v88 =>
Φ77 (lookP [(3, (x78 3)), (67, (x78 67)), (68, (x78 68)), (69, (x78 69)), (74, (x78 74)), (75, (x78 75)), (76, v88), (1, (x78 1))]) σ86)) (fun e89 σ90 => R (.pan e89) σ90))) (
bindO False (vBin none .add (x78 69) (.int .i64 1)) fun v91 =>
Φ66 (lookP [(3, (x78 3)), (67, (x78 67)), (68, (x78 68)), (69, v91), (1, (x78 1))]) σ79)) (lookP [(3, (x67 3)), (67, (x67 67)), (68, (x67 68)), (69, (x67 69)), (74, v74), (75, v76), (76, (.int .i64 0)), (1, (x67 1))]) σ75) (fun e92 σ93 => R (.pan e92) σ93)) (
bindO False (vPart false 1 (x67 1) 0) fun v94 =>
bindO False (vLen .sl v94 σ68) fun v95 =>
Lfp σ (fun Φ96 x97 σ98 =>
bindO False (vBin none .lss (x97 92) (x97 91)) fun v99 =>
condW v99 (
bindO False (vIndex 2 (x97 90) (x97 92)) fun v100 =>
bindO False (vLoad true 2 v100 σ98) fun v101 =>
bindO False (vPut 2 (.agg [(.str []), (.list .nil [])]) 0 v101) fun z102 =>
bindO False (vPart false 1 z102 1) fun v103 =>
callB W 51 [v103, (x97 10)] σ98 (fun v104 σ105 =>
condW v104 (
weakW σ (.int .i64 4) σ105 fun v σ => R (.ret v) σ) (
bindO False (vBin none .add (x97 92) (.int .i64 1)) fun v106 =>
Φ96 (lookP [(10, (x97 10)), (90, (x97 90)), (91, (x97 91)), (92, v106), (1, (x97 1))]) σ105)) (fun e107 σ108 => R (.pan e107) σ108)) (
bindO False (vPart false 1 (x97 1) 1) fun v109 =>
bindO False (vLen .sl v109 σ98) fun v110 =>
Lfp σ (fun Φ111 x112 σ113 =>
bindO False (vBin none .lss (x112 104) (x112 103)) fun v114 =>
condW v114 (
bindO False (vIndex 2 (x112 102) (x112 104)) fun v115 =>
bindO False (vLoad true 2 v115 σ113) fun v116 =>
bindO False (vPut 2 (.agg [(.list .nil []), (.list .nil [])]) 0 v116) fun z117 =>
bindO False (vPart true 2 z117 0) fun v118 =>
callB W 60 [v118] σ113 (fun v119 σ120 =>
callB W 51 [v119, (x112 10)] σ120 (fun v121 σ122 =>
condW v121 (
weakW σ (.int .i64 4) σ122 fun v σ => R (.ret v) σ) (
bindO False (vBin none .add (x112 104) (.int .i64 1)) fun v123 =>
Φ111 (lookP [(10, (x112 10)), (102, (x112 102)), (103, (x112 103)), (104, v123)]) σ122)) (fun e124 σ125 => R (.pan e124) σ125)) (fun e126 σ127 => R (.pan e126) σ127)) (
weakW σ (.int .i64 0) σ113 fun v σ => R (.ret v) σ)) (lookP [(10, (x97 10)), (102, v109), (103, v110), (104, (.int .i64 0))]) σ98)) (lookP [(10, (.func 61 [(x67 3)])), (90, v94), (91, v95), (92, (.int .i64 0)), (1, (x67 1))]) σ68)) (lookP [(3, (x37 3)), (67, v64), (68, v65), (69, (.int .i64 0)), (1, (x37 1))]) σ38)) (lookP [(3, p31), (37, v34), (38, v35), (39, (.int .i64 0)), (1, z0.2)]) σ33))))

theorem fn15_eq (W : CallP) (a0 : PV) (σ : St) (R : Res → St → Prop) : bodyC (algP W) Tryz.prog annF 15 [a0] σ R = fn15 Tryz.prog W a0 σ R := by kernel_rfl

/-- environ/environref19.Check -/
def fn16 (Pr : Program) (W : CallP) (a0 : PV) (σ : St) (R : Res → St → Prop) : Prop :=
bindO False (opC.vBoxAny a0) fun z0 =>
bindO False (vPart false 1 z0.2 0) fun v1 =>
bindO False (vLen .sl v1 σ) fun v2 =>
bindO False (vBin none .gtr v2 (.int .i64 100)) fun v3 =>
guardG False v3 false (fun J4 =>
bindO False (vPart false 1 z0.2 1) fun v7 =>
bindO False (vLen .sl v7 σ) fun v8 =>
bindO False (vBin none .gtr v8 (.int .i64 500)) fun v9 =>
J4 (lookE [(25, (.loc 1 1)), (26, (.v v7)), (27, (.v v8)), (28, (.v v9))]) σ) σ (fun y5 σ6 =>
bindO False (vPick v3 (.bool true) (y5 28).pv) fun v10 =>
condW v10 (
weakW σ (.int .i64 3) σ6 fun v σ => R (.ret v) σ) (
CutW σ (fun J11 =>
Lfp σ (fun Φ14 x15 σ16 =>
bindO False (vPart false 1 (x15 1) 0) fun v17 =>
bindO False (vLen .sl v17 σ16) fun v18 =>
bindO False (vBin none .lss (x15 3) v18) fun v19 =>
condW v19 (
bindO False (vPart false 1 (x15 1) 0) fun v20 =>
bindO False (vIndex 2 v20 (x15 3)) fun v21 =>
bindO False (vField 1 v21) fun v22 =>
bindO False (vLoad false 1 v22 σ16) fun v23 =>
callB W 65 [v23] σ16 (fun v24 σ25 =>
condW v24 (
weakW σ (.int .i64 3) σ25 fun v σ => R (.ret v) σ) (
bindO False (vBin none .add (x15 3) (.int .i64 1)) fun v26 =>
Φ14 (lookP [(3, v26), (1, (x15 1))]) σ25)) (fun e27 σ28 => R (.pan e27) σ28)) (
J11 (lookP [(1, (x15 1))]) σ16)) (lookP [(3, (.int .i64 0)), (1, z0.2)]) σ6) (fun x12 σ13 =>
CutW σ (fun J29 =>
Lfp σ (fun Φ32 x33 σ34 =>
bindO False (vPart false 1 (x33 1) 1) fun v35 =>
bindO False (vLen .sl v35 σ34) fun v36 =>
bindO False (vBin none .lss (x33 4) v36) fun v37 =>
condW v37 (
bindO False (vPart false 1 (x33 1) 1) fun v38 =>
bindO False (vIndex 2 v38 (x33 4)) fun v39 =>
bindO False (vField 1 v39) fun v40 =>
bindO False (vLoad false 1 v40 σ34) fun v41 =>
callB W 65 [v41] σ34 (fun v42 σ43 =>
guardG False v42 false (fun J44 =>
bindO False (vPart false 1 (x33 1) 1) fun v47 =>
bindO False (vIndex 2 v47 (x33 4)) fun v48 =>
bindO False (vField 0 v48) fun v49 =>
bindO False (vLoad false 1 v49 σ43) fun v50 =>
bindO False (vLen .sl v50 σ43) fun v51 =>
bindO False (vBin none .gtr v51 (.int .i64 64)) fun v52 =>
J44 (lookE [(59, (.loc 1 1)), (60, (.v v47)), (61, (.v (x33 4))), (62, (.v v48)), (63, (.v v49)), (64, (.v v50)), (65, (.v v51)), (66, (.v v52))]) σ43) σ43 (fun y45 σ46 =>
bindO False (vPick v42 (.bool true) (y45 66).pv) fun v53 =>
condW v53 (
weakW σ (.int .i64 3) σ46 fun v σ => R (.ret v) σ) (
bindO False (vBin none .add (x33 4) (.int .i64 1)) fun v54 =>
Φ32 (lookP [(4, v54), (1, (x33 1))]) σ46))) (fun e55 σ56 => R (.pan e55) σ56)) (
J29 (lookP [(1, (x33 1))]) σ34)) (lookP [(4, (.int .i64 0)), (1, (x12 1))]) σ13) (fun x30 σ31 =>
CutW σ (fun J57 =>
Lfp σ (fun Φ60 x61 σ62 =>
bindO False (vPart false 1 (x61 1) 0) fun v63 =>
bindO False (vLen .sl v63 σ62) fun v64 =>
bindO False (vBin none .lss (x61 5) v64) fun v65 =>
condW v65 (
CutW σ (fun J66 =>
bindO False (vPart false 1 (x61 1) 0) fun v69 =>
bindO False (vIndex 2 v69 (x61 5)) fun v70 =>
bindO False (vLoad true 2 v70 σ62) fun v71 =>
bindO False (vPut 2 (.agg [(.str []), (.list .nil [])]) 0 v71) fun z72 =>
bindO False (vPart false 1 z72 0) fun v73 =>
callB W 66 [v73] σ62 (fun v74 σ75 =>
bindO False (vUn .not v74) fun v76 =>
condW v76 (
weakW σ (.int .i64 8) σ75 fun v σ => R (.ret v) σ) (
bindO False (vPart true 2 (x61 1) 0) fun v77 =>
bindO False (vPart false 1 z72 0) fun v78 =>
callB W 67 [v77, v78] σ75 (fun v79 σ80 =>
bindO False (vBin none .lss v79 (x61 5)) fun v81 =>
condW v81 (
weakW σ (.int .i64 5) σ80 fun v σ => R (.ret v) σ) (
bindO False (vPart false 1 z72 1) fun v82 =>
bindO False (vLen .sl v82 σ80) fun v83 =>
bindO False (vBin none .eql v83 (.int .i64 0)) fun v84 =>
condW v84 (
weakW σ (.int .i64 12) σ80 fun v σ => R (.ret v) σ) (
Lfp σ (fun Φ85 x86 σ87 =>
bindO False (vPart false 1 (x86 6) 1) fun v88 =>
bindO False (vLen .sl v88 σ87) fun v89 =>
bindO False (vBin none .lss (x86 7) v89) fun v90 =>
condW v90 (
bindO False (vPart false 1 (x86 6) 1) fun v91 =>
bindO False (vIndex 1 v91 (x86 7)) fun v92 =>
bindO False (vLoad false 1 v92 σ87) fun v93 =>
callB W 68 [v93, (.bool false)] σ87 (fun v94 σ95 =>
bindO False (vBin none .neq v94 (.int .i64 0)) fun v96 =>
condW v96 (
weakW σ v94 σ95 fun v σ => R (.ret v) σ) (
bindO False (vBin none .add (x86 7) (.int .i64 1)) fun v97 =>
Φ85 (lookP [(5, (x86 5)), (7, v97), (1, (x86 1)), (6, (x86 6))]) σ95)) (fun e98 σ99 => R (.pan e98) σ99)) (
J66 (lookP [(5, (x86 5)), (1, (x86 1))]) σ87)) (lookP [(5, (x61 5)), (7, (.int .i64 0)), (1, (x61 1)), (6, z72)]) σ80))) (fun e100 σ101 => R (.pan e100) σ101))) (fun e102 σ103 => R (.pan e102) σ103)) (fun x67 σ68 =>
bindO False (vBin none .add (x67 5) (.int .i64 1)) fun v104 =>
Φ60 (lookP [(5, v104), (1, (x67 1))]) σ68)) (
J57 (lookP [(1, (x61 1))]) σ62)) (lookP [(5, (.int .i64 0)), (1, (x30 1))]) σ31) (fun x58 σ59 =>
CutW σ (fun J105 =>
Lfp σ (fun Φ108 x109 σ110 =>
bindO False (vPart false 1 (x109 1) 1) fun v111 =>
bindO False (vLen .sl v111 σ110) fun v112 =>
bindO False (vBin none .lss (x109 9) v112) fun v113 =>
condW v113 (
CutW σ (fun J114 =>
bindO False (vPart false 1 (x109 1) 1) fun v117 =>
bindO False (vIndex 2 v117 (x109 9)) fun v118 =>
bindO False (vField 0 v118) fun v119 =>
bindO False (vLoad false 1 v119 σ110) fun v120 =>
bindO False (vBuildSl 1 (List.replicate 1 (.list .nil [])) [(0, v120)]) fun v121 =>
bindO False (vPart false 1 (x109 1) 1) fun v122 =>
bindO False (vIndex 2 v122 (x109 9)) fun v123 =>
bindO False (vField 1 v123) fun v124 =>
bindO False (vLoad false 1 v124 σ110) fun v125 =>
bindS (vAppend 1 24 (.list .full v121) v125 σ110) fun v126 σ127 =>
Lfp σ (fun Φ128 x129 σ130 =>
bindO False (vLen .sl (x129 10) σ130) fun v131 =>
bindO False (vBin none .lss (x129 11) v131) fun v132 =>
condW v132 (
bindO False (vIndex 1 (x129 10) (x129 11)) fun v133 =>
bindO False (vLoad false 1 v133 σ130) fun v134 =>
bindO False (vLen .sl v134 σ130) fun v135 =>
bindO False (vBin none .eql v135 (.int .i64 0)) fun v136 =>
condW v136 (
weakW σ (.int .i64 12) σ130 fun v σ => R (.ret v) σ) (
bindO False (vIndex 1 (x129 10) (x129 11)) fun v137 =>
bindO False (vLoad false 1 v137 σ130) fun v138 =>
callB W 68 [v138, (.bool true)] σ130 (fun v139 σ140 =>
bindO False (vBin none .neq v139 (.int .i64 0)) fun v141 =>
condW v141 (
weakW σ v139 σ140 fun v σ => R (.ret v) σ) (
bindO False (vBin none .add (x129 11) (.int .i64 1)) fun v142 =>
Φ128 (lookP [(9, (x129 9)), (10, (x129 10)), (11, v142), (1, (x129 1))]) σ140)) (fun e143 σ144 => R (.pan e143) σ144))) (
J114 (lookP [(9, (x129 9)), (1, (x129 1))]) σ130)) (lookP [(9, (x109 9)), (10, v126), (11, (.int .i64 0)), (1, (x109 1))]) σ127) (fun x115 σ116 =>
bindO False (vBin none .add (x115 9) (.int .i64 1)) fun v145 =>
Φ108 (lookP [(9, v145), (1, (x115 1))]) σ116)) (
J105 (lookP [(1, (x109 1))]) σ110)) (lookP [(9, (.int .i64 0)), (1, (x58 1))]) σ59) (fun x106 σ107 =>
CutW σ (fun J146 =>
Lfp σ (fun Φ149 x150 σ151 =>
bindO False (vPart false 1 (x150 1) 0) fun v152 =>
bindO False (vLen .sl v152 σ151) fun v153 =>
bindO False (vBin none .lss (x150 13) v153) fun v154 =>
condW v154 (
CutW σ (fun J155 =>
Lfp σ (fun Φ158 x159 σ160 =>
bindO False (vPart false 1 (x159 1) 0) fun v161 =>
bindO False (vIndex 2 v161 (x159 13)) fun v162 =>
bindO False (vField 1 v162) fun v163 =>
bindO False (vLoad false 1 v163 σ160) fun v164 =>
bindO False (vLen .sl v164 σ160) fun v165 =>
bindO False (vBin none .lss (x159 14) v165) fun v166 =>
condW v166 (
bindO False (vPart true 2 (x159 1) 0) fun v167 =>
bindO False (vPart false 1 (x159 1) 0) fun v168 =>
bindO False (vIndex 2 v168 (x159 13)) fun v169 =>
bindO False (vField 1 v169) fun v170 =>
bindO False (vLoad false 1 v170 σ160) fun v171 =>
bindO False (vIndex 1 v171 (x159 14)) fun v172 =>
bindO False (vLoad false 1 v172 σ160) fun v173 =>
callB W 69 [v167, v173] σ160 (fun v174 σ175 =>
bindO False (vBin none .neq v174 (.int .i64 0)) fun v176 =>
condW v176 (
weakW σ v174 σ175 fun v σ => R (.ret v) σ) (
bindO False (vBin none .add (x159 14) (.int .i64 1)) fun v177 =>
Φ158 (lookP [(13, (x159 13)), (14, v177), (1, (x159 1))]) σ175)) (fun e178 σ179 => R (.pan e178) σ179)) (
J155 (lookP [(13, (x159 13)), (1, (x159 1))]) σ160)) (lookP [(13, (x150 13)), (14, (.int .i64 0)), (1, (x150 1))]) σ151) (fun x156 σ157 =>
bindO False (vBin none .add (x156 13) (.int .i64 1)) fun v180 =>
Φ149 (lookP [(13, v180), (1, (x156 1))]) σ157)) (
J146 (lookP [(1, (x150 1))]) σ151)) (lookP [(13, (.int .i64 0)), (1, (x106 1))]) σ107) (fun x147 σ148 =>
CutW σ (fun J181 =>
Lfp σ (fun Φ184 x185 σ186 =>
bindO False (vPart false 1 (x185 1) 1) fun v187 =>
bindO False (vLen .sl v187 σ186) fun v188 =>
bindO False (vBin none .lss (x185 16) v188) fun v189 =>
condW v189 (
CutW σ (fun J190 =>
bindO False (vPart false 1 (x185 1) 1) fun v193 =>
bindO False (vIndex 2 v193 (x185 16)) fun v194 =>
bindO False (vField 0 v194) fun v195 =>
bindO False (vLoad false 1 v195 σ186) fun v196 =>
bindO False (vBuildSl 1 (List.replicate 1 (.list .nil [])) [(0, v196)]) fun v197 =>
bindO False (vPart false 1 (x185 1) 1) fun v198 =>
bindO False (vIndex 2 v198 (x185 16)) fun v199 =>
bindO False (vField 1 v199) fun v200 =>
bindO False (vLoad false 1 v200 σ186) fun v201 =>
bindS (vAppend 1 24 (.list .full v197) v201 σ186) fun v202 σ203 =>
Lfp σ (fun Φ204 x205 σ206 =>
bindO False (vLen .sl (x205 17) σ206) fun v207 =>
bindO False (vBin none .lss (x205 18) v207) fun v208 =>
condW v208 (
bindO False (vPart true 2 (x205 1) 0) fun v209 =>
bindO False (vIndex 1 (x205 17) (x205 18)) fun v210 =>
bindO False (vLoad false 1 v210 σ206) fun v211 =>
callB W 69 [v209, v211] σ206 (fun v212 σ213 =>
bindO False (vBin none .neq v212 (.int .i64 0)) fun v214 =>
condW v214 (
weakW σ v212 σ213 fun v σ => R (.ret v) σ) (
bindO False (vBin none .add (x205 18) (.int .i64 1)) fun v215 =>
Φ204 (lookP [(16, (x205 16)), (17, (x205 17)), (18, v215), (1, (x205 1))]) σ213)) (fun e216 σ217 => R (.pan e216) σ217)) (
J190 (lookP [(16, (x205 16)), (1, (x205 1))]) σ206)) (lookP [(16, (x185 16)), (17, v202), (18, (.int .i64 0)), (1, (x185 1))]) σ203) (fun x191 σ192 =>
bindO False (vBin none .add (x191 16) (.int .i64 1)) fun v218 =>
Φ184 (lookP [(16, v218), (1, (x191 1))]) σ192)) (
J181 (lookP []) σ186)) (lookP [(16, (.int .i64 0)), (1, (x147 1))]) σ148) (fun x182 σ183 =>
weakW σ (.int .i64 0) σ183 fun v σ => R (.ret v) σ))))))))

theorem fn16_eq (W : CallP) (a0 : PV) (σ : St) (R : Res → St → Prop) : bodyC (algP W) Tryz.prog annF 16 [a0] σ R = fn16 Tryz.prog W a0 σ R := by kernel_rfl

/-- environ/environlaw19.Ref -/
def fn17 (Pr : Program) (W : CallP) (a0 : PV) (σ : St) (R : Res → St → Prop) : Prop :=
bindO False (opC.vBoxAny a0) fun z0 =>
CutW σ (fun J1 =>
bindO False (vPart false 1 z0.2 0) fun v4 =>
bindO False (vLen .sl v4 σ) fun v5 =>
Lfp σ (fun Φ6 x7 σ8 =>
bindO False (vBin none .lss (x7 11) (x7 10)) fun v9 =>
condW v9 (
bindO False (vIndex 2 (x7 9) (x7 11)) fun v10 =>
bindO False (vLoad true 2 v10 σ8) fun v11 =>
bindO False (vPut 2 (.agg [(.str []), (.list .nil [])]) 0 v11) fun z12 =>
bindO False (vPart false 1 (x7 3) 0) fun v13 =>
bindO False (vPart false 1 z12 0) fun v14 =>
bindO False (vPart false 1 z12 1) fun v15 =>
callB W 70 [v15] σ8 (fun v16 σ17 =>
bindO False (vBuild [(.str []), (.list .nil [])] [(0, 1, v14), (1, 1, v16)]) fun v18 =>
bindO False (vBuildSl 2 (List.replicate 1 (.agg [(.str []), (.list .nil [])])) [(0, (.agg v18))]) fun v19 =>
bindS (vAppend 2 40 v13 (.list .full v19) σ17) fun v20 σ21 =>
bindO False (vPut 1 (x7 3) 0 v20) fun z22 =>
bindO False (vBin none .add (x7 11) (.int .i64 1)) fun v23 =>
Φ6 (lookP [(9, (x7 9)), (10, (x7 10)), (11, v23), (1, (x7 1)), (2, (x7 2)), (3, z22)]) σ21) (fun e24 σ25 => R (.pan e24) σ25)) (
J1 (lookP [(1, (x7 1)), (2, (x7 2)), (3, (x7 3))]) σ8)) (lookP [(9, v4), (10, v5), (11, (.int .i64 0)), (1, z0.2), (2, (.agg [(.list .nil []), (.list .nil [])])), (3, (.agg [(.list .nil []), (.list .nil [])]))]) σ) (fun x2 σ3 =>
CutW σ (fun J26 =>
bindO False (vPart false 1 (x2 1) 1) fun v29 =>
bindO False (vLen .sl v29 σ3) fun v30 =>
Lfp σ (fun Φ31 x32 σ33 =>
bindO False (vBin none .lss (x32 30) (x32 29)) fun v34 =>
condW v34 (
bindO False (vIndex 2 (x32 28) (x32 30)) fun v35 =>
bindO False (vLoad true 2 v35 σ33) fun v36 =>
bindO False (vPut 2 (.agg [(.list .nil []), (.list .nil [])]) 0 v36) fun z37 =>
bindO False (vPart false 1 (x32 3) 1) fun v38 =>
bindO False (vPart false 1 z37 0) fun v39 =>
bindO False (vPart false 1 z37 1) fun v40 =>
callB W 25 [v39] σ33 (fun v41 σ42 =>
callB W 70 [v40] σ42 (fun v43 σ44 =>
bindO False (vBuild [(.list .nil []), (.list .nil [])] [(0, 1, v41), (1, 1, v43)]) fun v45 =>
bindO False (vBuildSl 2 (List.replicate 1 (.agg [(.list .nil []), (.list .nil [])])) [(0, (.agg v45))]) fun v46 =>
bindS (vAppend 2 48 v38 (.list .full v46) σ44) fun v47 σ48 =>
bindO False (vPut 1 (x32 3) 1 v47) fun z49 =>
bindO False (vBin none .add (x32 30) (.int .i64 1)) fun v50 =>
Φ31 (lookP [(28, (x32 28)), (29, (x32 29)), (30, v50), (2, (x32 2)), (3, z49)]) σ48) (fun e51 σ52 => R (.pan e51) σ52)) (fun e53 σ54 => R (.pan e53) σ54)) (
J26 (lookP [(2, (x32 2)), (3, (x32 3))]) σ33)) (lookP [(28, v29), (29, v30), (30, (.int .i64 0)), (2, (x2 2)), (3, (x2 3))]) σ3) (fun x27 σ28 =>
bindO False (vPart true 2 (x27 3) 0) fun v55 =>
bindO False (vPut 2 (x27 2) 0 v55) fun z56 =>
bindO False (resCons (vPart true 2 z56 0) (some [])) fun vs => weakW σ (vResults vs) σ28 fun v σ => R (.ret v) σ))

theorem fn17_eq (W : CallP) (a0 : PV) (σ : St) (R : Res → St → Prop) : bodyC (algP W) Tryz.prog annF 17 [a0] σ R = fn17 Tryz.prog W a0 σ R := by kernel_rfl

/-- environ/environlaw19.Small$1 -/
def fn49 (Pr : Program) (W : CallP) (a0 : PV) (σ : St) (R : Res → St → Prop) : Prop :=
bindO False (vLen .sl a0 σ) fun v0 =>
bindO False (vBin none .gtr v0 (.int .i64 8)) fun v1 =>
weakW σ v1 σ fun v σ => R (.ret v) σ

theorem fn49_eq (W : CallP) (a0 : PV) (σ : St) (R : Res → St → Prop) : bodyC (algP W) Tryz.prog annF 49 [a0] σ R = fn49 Tryz.prog W a0 σ R := by kernel_rfl

/-- environ/environlaw19.Small$2 -/
def fn50 (Pr : Program) (W : CallP) (a0 a1 : PV) (σ : St) (R : Res → St → Prop) : Prop :=
bindO False (vLen .sl a0 σ) fun v0 =>
bindO False (vBin none .gtr v0 (.int .i64 6)) fun v1 =>
guardG False v1 false (fun J2 =>
bindO False (vLoad false 1 a1 σ) fun v5 =>
callB W 51 [a0, v5] σ (fun v6 σ7 =>
J2 (lookE [(8, (.v a0)), (9, (.v v5)), (10, (.v v6))]) σ7) (fun e8 σ9 => R (.pan e8) σ9)) σ (fun y3 σ4 =>
bindO False (vPick v1 (.bool true) (y3 10).pv) fun v10 =>
weakW σ v10 σ4 fun v σ => R (.ret v) σ)

theorem fn50_eq (W : CallP) (a0 a1 : PV) (σ : St) (R : Res → St → Prop) : bodyC (algP W) Tryz.prog annF 50 [a0, a1] σ R = fn50 Tryz.prog W a0 a1 σ R := by kernel_rfl

/-- slices.ContainsFunc[[][]environ/hyper.Part,[]environ/hyper.Part] -/
def fn51 (Pr : Program) (W : CallP) (a0 a1 : PV) (σ : St) (R : Res → St → Prop) : Prop :=
callB W 119 [a0, a1] σ (fun v0 σ1 =>
bindO False (vBin none .geq v0 (.int .i64 0)) fun v2 =>
weakW σ v2 σ1 fun v σ => R (.ret v) σ) (fun e3 σ4 => R (.pan e3) σ4)

theorem fn51_eq (W : CallP) (a0 a1 : PV) (σ : St) (R : Res → St → Prop) : bodyC (algP W) Tryz.prog annF 51 [a0, a1] σ R = fn51 Tryz.prog W a0 a1 σ R := by kernel_rfl

/-- environ/environlaw19.Small$3 -/
def fn52 (Pr : Program) (W : CallP) (a0 a1 : PV) (σ : St) (R : Res → St → Prop) : Prop :=
bindO False (opC.vBoxAny a0) fun z0 =>
bindO False (vLoad false 1 a1 σ) fun v1 =>
bindO False (vPart false 1 z0.2 1) fun v2 =>
callG (algP W) Pr false v1 [v2] σ (fun v3 σ4 =>
weakW σ v3 σ4 fun v σ => R (.ret v) σ) (fun e5 σ6 => R (.pan e5) σ6)

theorem fn52_eq (W : CallP) (a0 a1 : PV) (σ : St) (R : Res → St → Prop) : bodyC (algP W) Tryz.prog annF 52 [a0, a1] σ R = fn52 Tryz.prog W a0 a1 σ R := by kernel_rfl

/-- slices.ContainsFunc[[]environ/hyper.Rule,environ/hyper.Rule] -/
def fn53 (Pr : Program) (W : CallP) (a0 a1 : PV) (σ : St) (R : Res → St → Prop) : Prop :=
callB W 120 [a0, a1] σ (fun v0 σ1 =>
bindO False (vBin none .geq v0 (.int .i64 0)) fun v2 =>
weakW σ v2 σ1 fun v σ => R (.ret v) σ) (fun e3 σ4 => R (.pan e3) σ4)

theorem fn53_eq (W : CallP) (a0 a1 : PV) (σ : St) (R : Res → St → Prop) : bodyC (algP W) Tryz.prog annF 53 [a0, a1] σ R = fn53 Tryz.prog W a0 a1 σ R := by kernel_rfl

/-- environ/environlaw19.Small$4 -/
def fn54 (Pr : Program) (W : CallP) (a0 a1 a2 : PV) (σ : St) (R : Res → St → Prop) : Prop :=
bindO False (opC.vBoxAny a0) fun z0 =>
bindO False (vLoad false 1 a1 σ) fun v1 =>
bindO False (vPart false 1 z0.2 0) fun v2 =>
callG (algP W) Pr false v1 [v2] σ (fun v3 σ4 =>
guardG False v3 false (fun J5 =>
bindO False (vLoad false 1 a2 σ4) fun v8 =>
bindO False (vPart false 1 z0.2 1) fun v9 =>
callG (algP W) Pr false v8 [v9] σ4 (fun v10 σ11 =>
J5 (lookE [(10, (.v v8)), (11, (.loc 3 1)), (12, (.v v9)), (13, (.v v10))]) σ11) (fun e12 σ13 => R (.pan e12) σ13)) σ4 (fun y6 σ7 =>
bindO False (vPick v3 (.bool true) (y6 13).pv) fun v14 =>
weakW σ v14 σ7 fun v σ => R (.ret v) σ)) (fun e15 σ16 => R (.pan e15) σ16)

theorem fn54_eq (W : CallP) (a0 a1 a2 : PV) (σ : St) (R : Res → St → Prop) : bodyC (algP W) Tryz.prog annF 54 [a0, a1, a2] σ R = fn54 Tryz.prog W a0 a1 a2 σ R := by kernel_rfl

/-- (environ/hyper.Meta).long -/
def fn55 (Pr : Program) (W : CallP) (a0 : PV) (σ : St) (R : Res → St → Prop) : Prop :=
bindO False (opC.vBoxAny a0) fun z0 =>
bindO False (vPart false 1 z0.2 1) fun v1 =>
bindO False (vLen .sl v1 σ) fun v2 =>
bindO False (vBin none .gtr v2 (.int .i64 64)) fun v3 =>
guardG False v3 false (fun J4 =>
bindO False (vPart false 1 z0.2 1) fun v7 =>
callB W 51 [v7, (.func 121 [])] σ (fun v8 σ9 =>
J4 (lookE [(8, (.loc 1 1)), (9, (.v v7)), (10, (.v v8))]) σ9) (fun e10 σ11 => R (.pan e10) σ11)) σ (fun y5 σ6 =>
bindO False (vPick v3 (.bool true) (y5 10).pv) fun v12 =>
weakW σ v12 σ6 fun v σ => R (.ret v) σ)

theorem fn55_eq (W : CallP) (a0 : PV) (σ : St) (R : Res → St → Prop) : bodyC (algP W) Tryz.prog annF 55 [a0] σ R = fn55 Tryz.prog W a0 σ R := by kernel_rfl

/-- (environ/hyper.Rule).long -/
def fn56 (Pr : Program) (W : CallP) (a0 : PV) (σ : St) (R : Res → St → Prop) : Prop :=
bindO False (opC.vBoxAny a0) fun z0 =>
bindO False (vPart false 1 z0.2 1) fun v1 =>
bindO False (vLen .sl v1 σ) fun v2 =>
bindO False (vBin none .gtr v2 (.int .i64 64)) fun v3 =>
guardG False v3 false (fun J4 =>
bindO False (vPart false 1 z0.2 0) fun v7 =>
bindO False (vLen .sl v7 σ) fun v8 =>
bindO False (vBin none .gtr v8 (.int .i64 64)) fun v9 =>
J4 (lookE [(8, (.loc 1 0)), (9, (.v v7)), (10, (.v v8)), (11, (.v v9))]) σ) σ (fun y5 σ6 =>
bindO False (vPick v3 (.bool true) (y5 11).pv) fun v10 =>
guardG False v10 false (fun J11 =>
bindO False (vPart false 1 z0.2 1) fun v14 =>
callB W 51 [v14, (.func 122 [])] σ6 (fun v15 σ16 =>
J11 (lookE [(14, (.loc 1 1)), (15, (.v v14)), (16, (.v v15))]) σ16) (fun e17 σ18 => R (.pan e17) σ18)) σ6 (fun y12 σ13 =>
bindO False (vPick v10 (.bool true) (y12 16).pv) fun v19 =>
weakW σ v19 σ13 fun v σ => R (.ret v) σ))

theorem fn56_eq (W : CallP) (a0 : PV) (σ : St) (R : Res → St → Prop) : bodyC (algP W) Tryz.prog annF 56 [a0] σ R = fn56 Tryz.prog W a0 σ R := by kernel_rfl

/-- environ/hyper.Check$1 -/
def fn58 (Pr : Program) (W : CallP) (a0 : PV) (σ : St) (R : Res → St → Prop) : Prop :=
callB W 59 [a0, (.bool false)] σ (fun v0 σ1 =>
bindO False (vUn .not v0) fun v2 =>
weakW σ v2 σ1 fun v σ => R (.ret v) σ) (fun e3 σ4 => R (.pan e3) σ4)

theorem fn58_eq (W : CallP) (a0 : PV) (σ : St) (R : Res → St → Prop) : bodyC (algP W) Tryz.prog annF 58 [a0] σ R = fn58 Tryz.prog W a0 σ R := by kernel_rfl

/-- (environ/hyper.Rule).all -/
def fn60 (Pr : Program) (W : CallP) (a0 : PV) (σ : St) (R : Res → St → Prop) : Prop :=
bindO False (opC.vBoxAny a0) fun z0 =>
bindO False (vPart false 1 z0.2 0) fun v1 =>
bindO False (vBuildSl 1 (List.replicate 1 (.list .nil [])) [(0, v1)]) fun v2 =>
bindO False (vPart false 1 z0.2 1) fun v3 =>
bindS (vAppend 1 24 (.list .full v2) v3 σ) fun v4 σ5 =>
weakW σ v4 σ5 fun v σ => R (.ret v) σ

theorem fn60_eq (W : CallP) (a0 : PV) (σ : St) (R : Res → St → Prop) : bodyC (algP W) Tryz.prog annF 60 [a0] σ R = fn60 Tryz.prog W a0 σ R := by kernel_rfl

/-- environ/hyper.Check$2 -/
def fn61 (Pr : Program) (W : CallP) (a0 a1 : PV) (σ : St) (R : Res → St → Prop) : Prop :=
callB W 62 [a0, (.func 63 [a1])] σ (fun v0 σ1 =>
weakW σ v0 σ1 fun v σ => R (.ret v) σ) (fun e2 σ3 => R (.pan e2) σ3)

theorem fn61_eq (W : CallP) (a0 a1 : PV) (σ : St) (R : Res → St → Prop) : bodyC (algP W) Tryz.prog annF 61 [a0, a1] σ R = fn61 Tryz.prog W a0 a1 σ R := by kernel_rfl

/-- environ/hyper.Check$2$1 -/
def fn63 (Pr : Program) (W : CallP) (a0 a1 : PV) (σ : St) (R : Res → St → Prop) : Prop :=
bindO False (opC.vBoxAny a0) fun z0 =>
bindO False (vPart false 1 z0.2 0) fun v1 =>
guardG False v1 true (fun J2 =>
bindO False (vLoad false 1 a1 σ) fun v5 =>
bindO False (vPart false 1 z0.2 1) fun v6 =>
callC W 64 [v6] σ fun v7 _ =>
bindO False (vLookup .str (.bool false) false v5 v7 σ) fun v8 =>
bindO False (vUn .not v8) fun v9 =>
J2 (lookE [(7, (.v v5)), (8, (.loc 2 1)), (9, (.v v6)), (10, (.v v7)), (11, (.v v8)), (12, (.v v9))]) σ) σ (fun y3 σ4 =>
bindO False (vPick v1 (y3 12).pv (.bool false)) fun v10 =>
weakW σ v10 σ4 fun v σ => R (.ret v) σ)

theorem fn63_eq (W : CallP) (a0 a1 : PV) (σ : St) (R : Res → St → Prop) : bodyC (algP W) Tryz.prog annF 63 [a0, a1] σ R = fn63 Tryz.prog W a0 a1 σ R := by kernel_rfl

/-- environ/environref19.long -/
def fn65 (Pr : Program) (W : CallP) (a0 : PV) (σ : St) (R : Res → St → Prop) : Prop :=
CutW σ (fun J0 =>
Lfp σ (fun Φ3 x4 σ5 =>
bindO False (vLen .sl (x4 0) σ5) fun v6 =>
bindO False (vBin none .lss (x4 3) v6) fun v7 =>
condW v7 (
bindO False (vIndex 1 (x4 0) (x4 3)) fun v8 =>
bindO False (vLoad false 1 v8 σ5) fun v9 =>
bindO False (vLen .sl v9 σ5) fun v10 =>
bindO False (vBin none .gtr v10 (.int .i64 64)) fun v11 =>
condW v11 (
weakW σ (.bool true) σ5 fun v σ => R (.ret v) σ) (
bindO False (vBin none .add (x4 3) (.int .i64 1)) fun v12 =>
Φ3 (lookP [(0, (x4 0)), (3, v12)]) σ5)) (
J0 (lookP [(0, (x4 0))]) σ5)) (lookP [(0, a0), (3, (.int .i64 0))]) σ) (fun x1 σ2 =>
bindO False (vLen .sl (x1 0) σ2) fun v13 =>
bindO False (vBin none .gtr v13 (.int .i64 64)) fun v14 =>
weakW σ v14 σ2 fun v σ => R (.ret v) σ)

theorem fn65_eq (W : CallP) (a0 : PV) (σ : St) (R : Res → St → Prop) : bodyC (algP W) Tryz.prog annF 65 [a0] σ R = fn65 Tryz.prog W a0 σ R := by kernel_rfl

/-- environ/environref19.find -/
def fn67 (Pr : Program) (W : CallP) (a0 a1 : PV) (σ : St) (R : Res → St → Prop) : Prop :=
bindO False (opC.vBoxAny a0) fun z0 =>
CutW σ (fun J1 =>
Lfp σ (fun Φ4 x5 σ6 =>
bindO False (vPart false 1 (x5 2) 0) fun v7 =>
bindO False (vLen .sl v7 σ6) fun v8 =>
bindO False (vBin none .lss (x5 5) v8) fun v9 =>
condW v9 (
bindO False (vPart false 1 (x5 2) 0) fun v10 =>
bindO False (vIndex 2 v10 (x5 5)) fun v11 =>
bindO False (vField 0 v11) fun v12 =>
bindO False (vLoad false 1 v12 σ6) fun v13 =>
bindO False (vBin none .eql v13 (x5 1)) fun v14 =>
condW v14 (
weakW σ (x5 5) σ6 fun v σ => R (.ret v) σ) (
bindO False (vBin none .add (x5 5) (.int .i64 1)) fun v15 =>
Φ4 (lookP [(1, (x5 1)), (5, v15), (2, (x5 2))]) σ6)) (
J1 (lookP []) σ6)) (lookP [(1, a1), (5, (.int .i64 0)), (2, z0.2)]) σ) (fun x2 σ3 =>
weakW σ (.int .i64 (-1)) σ3 fun v σ => R (.ret v) σ)

theorem fn67_eq (W : CallP) (a0 a1 : PV) (σ : St) (R : Res → St → Prop) : bodyC (algP W) Tryz.prog annF 67 [a0, a1] σ R = fn67 Tryz.prog W a0 a1 σ R := by kernel_rfl

/-- environ/environref19.there -/
def fn69 (Pr : Program) (W : CallP) (a0 a1 : PV) (σ : St) (R : Res → St → Prop) : Prop :=
bindO False (opC.vBoxAny a0) fun z0 =>
CutW σ (fun J1 =>
Lfp σ (fun Φ4 x5 σ6 =>
bindO False (vLen .sl (x5 1) σ6) fun v7 =>
bindO False (vBin none .lss (x5 5) v7) fun v8 =>
condW v8 (
bindO False (vIndex 2 (x5 1) (x5 5)) fun v9 =>
bindO False (vField 0 v9) fun v10 =>
bindO False (vLoad false 1 v10 σ6) fun v11 =>
guardG False v11 true (fun J12 =>
bindO False (vPart true 2 (x5 2) 0) fun v15 =>
bindO False (vIndex 2 (x5 1) (x5 5)) fun v16 =>
bindO False (vField 1 v16) fun v17 =>
bindO False (vLoad false 1 v17 σ6) fun v18 =>
callB W 129 [v18] σ6 (fun v19 σ20 =>
callB W 67 [v15, v19] σ20 (fun v21 σ22 =>
bindO False (vBin none .lss v21 (.int .i64 0)) fun v23 =>
J12 (lookE [(18, (.v v15)), (19, (.v (x5 1))), (20, (.v (x5 5))), (21, (.v v16)), (22, (.v v17)), (23, (.v v18)), (24, (.v v19)), (25, (.v v21)), (26, (.v v23))]) σ22) (fun e24 σ25 => R (.pan e24) σ25)) (fun e26 σ27 => R (.pan e26) σ27)) σ6 (fun y13 σ14 =>
bindO False (vPick v11 (y13 26).pv (.bool false)) fun v28 =>
condW v28 (
weakW σ (.int .i64 4) σ14 fun v σ => R (.ret v) σ) (
bindO False (vBin none .add (x5 5) (.int .i64 1)) fun v29 =>
Φ4 (lookP [(1, (x5 1)), (5, v29), (2, (x5 2))]) σ14))) (
J1 (lookP []) σ6)) (lookP [(1, a1), (5, (.int .i64 0)), (2, z0.2)]) σ) (fun x2 σ3 =>
weakW σ (.int .i64 0) σ3 fun v σ => R (.ret v) σ)

theorem fn69_eq (W : CallP) (a0 a1 : PV) (σ : St) (R : Res → St → Prop) : bodyC (algP W) Tryz.prog annF 69 [a0, a1] σ R = fn69 Tryz.prog W a0 a1 σ R := by kernel_rfl

/-- environ/environlaw19.lists -/
def fn70 (Pr : Program) (W : CallP) (a0 : PV) (σ : St) (R : Res → St → Prop) : Prop :=
CutW σ (fun J0 =>
bindO False (vLen .sl a0 σ) fun v3 =>
Lfp σ (fun Φ4 x5 σ6 =>
bindO False (vBin none .lss (x5 8) (x5 7)) fun v7 =>
condW v7 (
bindO False (vIndex 1 (x5 6) (x5 8)) fun v8 =>
bindO False (vLoad false 1 v8 σ6) fun v9 =>
callB W 25 [v9] σ6 (fun v10 σ11 =>
bindO False (vBuildSl 1 (List.replicate 1 (.list .nil [])) [(0, v10)]) fun v12 =>
bindS (vAppend 1 24 (x5 3) (.list .full v12) σ11) fun v13 σ14 =>
bindO False (vBin none .add (x5 8) (.int .i64 1)) fun v15 =>
Φ4 (lookP [(3, v13), (6, (x5 6)), (7, (x5 7)), (8, v15)]) σ14) (fun e16 σ17 => R (.pan e16) σ17)) (
J0 (lookP [(3, (x5 3))]) σ6)) (lookP [(3, (.list .nil [])), (6, a0), (7, v3), (8, (.int .i64 0))]) σ) (fun x1 σ2 =>
weakW σ (x1 3) σ2 fun v σ => R (.ret v) σ)

theorem fn70_eq (W : CallP) (a0 : PV) (σ : St) (R : Res → St → Prop) : bodyC (algP W) Tryz.prog annF 70 [a0] σ R = fn70 Tryz.prog W a0 σ R := by kernel_rfl

/-- slices.IndexFunc[[][]environ/hyper.Part,[]environ/hyper.Part] -/
def fn119 (Pr : Program) (W : CallP) (a0 a1 : PV) (σ : St) (R : Res → St → Prop) : Prop :=
bindO False (vLen .sl a0 σ) fun v0 =>
Lfp σ (fun Φ1 x2 σ3 =>
bindO False (vBin none .lss (x2 8) (x2 7)) fun v4 =>
condW v4 (
bindO False (vIndex 1 (x2 0) (x2 8)) fun v5 =>
bindO False (vLoad false 1 v5 σ3) fun v6 =>
callG (algP W) Pr false (x2 1) [v6] σ3 (fun v7 σ8 =>
condW v7 (
weakW σ (x2 8) σ8 fun v σ => R (.ret v) σ) (
bindO False (vBin none .add (x2 8) (.int .i64 1)) fun v9 =>
Φ1 (lookP [(0, (x2 0)), (1, (x2 1)), (7, (x2 7)), (8, v9)]) σ8)) (fun e10 σ11 => R (.pan e10) σ11)) (
weakW σ (.int .i64 (-1)) σ3 fun v σ => R (.ret v) σ)) (lookP [(0, a0), (1, a1), (7, v0), (8, (.int .i64 0))]) σ

theorem fn119_eq (W : CallP) (a0 a1 : PV) (σ : St) (R : Res → St → Prop) : bodyC (algP W) Tryz.prog annF 119 [a0, a1] σ R = fn119 Tryz.prog W a0 a1 σ R := by kernel_rfl

/-- slices.IndexFunc[[]environ/hyper.Rule,environ/hyper.Rule] -/
def fn120 (Pr : Program) (W : CallP) (a0 a1 : PV) (σ : St) (R : Res → St → Prop) : Prop :=
bindO False (vLen .sl a0 σ) fun v0 =>
Lfp σ (fun Φ1 x2 σ3 =>
bindO False (vBin none .lss (x2 8) (x2 7)) fun v4 =>
condW v4 (
bindO False (vIndex 2 (x2 0) (x2 8)) fun v5 =>
bindO False (vLoad true 2 v5 σ3) fun v6 =>
callG (algP W) Pr false (x2 1) [v6] σ3 (fun v7 σ8 =>
condW v7 (
weakW σ (x2 8) σ8 fun v σ => R (.ret v) σ) (
bindO False (vBin none .add (x2 8) (.int .i64 1)) fun v9 =>
Φ1 (lookP [(0, (x2 0)), (1, (x2 1)), (7, (x2 7)), (8, v9)]) σ8)) (fun e10 σ11 => R (.pan e10) σ11)) (
weakW σ (.int .i64 (-1)) σ3 fun v σ => R (.ret v) σ)) (lookP [(0, a0), (1, a1), (7, v0), (8, (.int .i64 0))]) σ

theorem fn120_eq (W : CallP) (a0 a1 : PV) (σ : St) (R : Res → St → Prop) : bodyC (algP W) Tryz.prog annF 120 [a0, a1] σ R = fn120 Tryz.prog W a0 a1 σ R := by kernel_rfl

/-- (environ/hyper.Meta).long$1 -/
def fn121 (Pr : Program) (W : CallP) (a0 : PV) (σ : St) (R : Res → St → Prop) : Prop :=
bindO False (vLen .sl a0 σ) fun v0 =>
bindO False (vBin none .gtr v0 (.int .i64 64)) fun v1 =>
weakW σ v1 σ fun v σ => R (.ret v) σ

theorem fn121_eq (W : CallP) (a0 : PV) (σ : St) (R : Res → St → Prop) : bodyC (algP W) Tryz.prog annF 121 [a0] σ R = fn121 Tryz.prog W a0 σ R := by kernel_rfl

/-- (environ/hyper.Rule).long$1 -/
def fn122 (Pr : Program) (W : CallP) (a0 : PV) (σ : St) (R : Res → St → Prop) : Prop :=
bindO False (vLen .sl a0 σ) fun v0 =>
bindO False (vBin none .gtr v0 (.int .i64 64)) fun v1 =>
weakW σ v1 σ fun v σ => R (.ret v) σ

theorem fn122_eq (W : CallP) (a0 : PV) (σ : St) (R : Res → St → Prop) : bodyC (algP W) Tryz.prog annF 122 [a0] σ R = fn122 Tryz.prog W a0 σ R := by kernel_rfl

/-- slices.ContainsFunc[[]environ/hyper.Meta,environ/hyper.Meta] -/
def fn35 (Pr : Program) (W : CallP) (a0 a1 : PV) (σ : St) (R : Res → St → Prop) : Prop :=
callB W 111 [a0, a1] σ (fun v0 σ1 =>
bindO False (vBin none .geq v0 (.int .i64 0)) fun v2 =>
weakW σ v2 σ1 fun v σ => R (.ret v) σ) (fun e3 σ4 => R (.pan e3) σ4)

theorem fn35_eq (W : CallP) (a0 a1 : PV) (σ : St) (R : Res → St → Prop) : bodyC (algP W) Tryz.prog annF 35 [a0, a1] σ R = fn35 Tryz.prog W a0 a1 σ R := by kernel_rfl

/-- slices.IndexFunc[[]environ/hyper.Meta,environ/hyper.Meta] -/
def fn111 (Pr : Program) (W : CallP) (a0 a1 : PV) (σ : St) (R : Res → St → Prop) : Prop :=
bindO False (vLen .sl a0 σ) fun v0 =>
Lfp σ (fun Φ1 x2 σ3 =>
bindO False (vBin none .lss (x2 8) (x2 7)) fun v4 =>
condW v4 (
bindO False (vIndex 2 (x2 0) (x2 8)) fun v5 =>
bindO False (vLoad true 2 v5 σ3) fun v6 =>
callG (algP W) Pr false (x2 1) [v6] σ3 (fun v7 σ8 =>
condW v7 (
weakW σ (x2 8) σ8 fun v σ => R (.ret v) σ) (
bindO False (vBin none .add (x2 8) (.int .i64 1)) fun v9 =>
Φ1 (lookP [(0, (x2 0)), (1, (x2 1)), (7, (x2 7)), (8, v9)]) σ8)) (fun e10 σ11 => R (.pan e10) σ11)) (
weakW σ (.int .i64 (-1)) σ3 fun v σ => R (.ret v) σ)) (lookP [(0, a0), (1, a1), (7, v0), (8, (.int .i64 0))]) σ

theorem fn111_eq (W : CallP) (a0 a1 : PV) (σ : St) (R : Res → St → Prop) : bodyC (algP W) Tryz.prog annF 111 [a0, a1] σ R = fn111 Tryz.prog W a0 a1 σ R := by kernel_rfl

end Go.Proofs.YtiniifbmeobmgaaGreatDoor
