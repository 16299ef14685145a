/- The bodies of some functions, as the abstract machine reads them (printed by wip/tools/Pr31.lean), each held against the program's form by the kernel. -/
import Derived.KernelRfl
import Derived.Test.YtgghfcchanilpaaGreatDoorAnn
import Derived.Test.YtgghfcchanilpaaGreatDoorProg
set_option linter.unusedVariables false
namespace Go.Proofs.YtgghfcchanilpaaGreatDoor
open Go Go.Abs

/-- environ/environlaw31.CodeLines -/
def fn4 (Pr : Program) (W : CallP) (a0 : PV) (σ : St) (R : Res → St → Prop) : Prop :=
bindO False (opC.vBoxAny a0) fun z0 =>
bindO False (vPart true 12 z0.2 0) fun v1 =>
callB W 19 [v1] σ (fun v2 σ3 =>
bindO False (vExtract v2 0) fun v4 =>
bindO False (vExtract v2 1) fun v5 =>
bindO False (vPart true 12 z0.2 0) fun v6 =>
callB W 20 [v6] σ3 (fun v7 σ8 =>
bindO False (vExtract v7 0) fun v9 =>
bindO False (vExtract v7 1) fun v10 =>
callB W 12 [] σ8 (fun v11 σ12 =>
bindO False (vUn .not v11) fun v13 =>
guardG False v13 false (fun J14 =>
bindO False (vBin none .neq v4 v9) fun v17 =>
J14 (lookE [(22, (.v v4)), (23, (.v v9)), (24, (.v v17))]) σ12) σ12 (fun y15 σ16 =>
bindO False (vPick v13 (.bool true) (y15 24).pv) fun v18 =>
guardG False v18 false (fun J19 =>
bindO False (vBin none .neq v5 v10) fun v22 =>
J19 (lookE [(27, (.v v5)), (28, (.v v10)), (29, (.v v22))]) σ16) σ16 (fun y20 σ21 =>
bindO False (vPick v18 (.bool true) (y20 29).pv) fun v23 =>
condW v23 (
weakW σ (.bool false) σ21 fun v σ => R (.ret v) σ) (
callB W 21 [v4] σ21 (fun v24 σ25 =>
bindO False (vExtract v24 0) fun v26 =>
bindO False (vExtract v24 1) fun v27 =>
bindO False (vPut 12 (.agg [(.int .i64 0), (.int .i64 0), (.int .i64 0), (.int .i64 0), (.int .i64 0), (.int .i64 0), (.int .i64 0), (.int .i64 0), (.int .i64 0), (.int .i64 0), (.int .i64 0), (.int .i64 0)]) 0 v26) fun z28 =>
bindO False (vBin none .neq v5 (.int .i64 0)) fun v29 =>
guardG False v29 true (fun J30 =>
bindO False (vBin none .eql v27 (.int .i64 9)) fun v33 =>
J30 (lookE [(39, (.v v27)), (40, (.v v33))]) σ25) σ25 (fun y31 σ32 =>
bindO False (vPick v29 (y31 40).pv (.bool false)) fun v34 =>
guardG False v34 false (fun J35 =>
bindO False (vBin none .eql v5 (.int .i64 0)) fun v38 =>
J35 (lookE [(43, (.v v5)), (44, (.v v38)), (45, (.v v38))]) σ32) σ32 (fun y36 σ37 =>
guardG False (y36 45).pv true (fun J39 =>
bindO False (vBin none .eql v27 (.int .i64 0)) fun v42 =>
J39 (lookE [(46, (.v v27)), (47, (.v v42))]) σ37) σ37 (fun y40 σ41 =>
guardG False v34 false (fun J43 =>
bindO False (vPick (y36 45).pv (y40 47).pv (.bool false)) fun v46 =>
J43 (lookE [(48, (.v v46)), (49, (.v v46))]) σ41) σ41 (fun y44 σ45 =>
guardG False (y44 49).pv true (fun J47 =>
bindO False (vPart true 12 z28 0) fun v50 =>
bindO False (vPart true 12 z0.2 0) fun v51 =>
bindO False (vBin (some (.st [.int, .int, .int, .int, .int, .int, .int, .int, .int, .int, .int, .int])) .eql v50 v51) fun v52 =>
J47 (lookE [(50, (.v v50)), (51, (.v v51)), (52, (.v v52))]) σ45) σ45 (fun y48 σ49 =>
guardG False v34 false (fun J53 =>
bindO False (vPick (y44 49).pv (y48 52).pv (.bool false)) fun v56 =>
J53 (lookE [(53, (.v v56))]) σ49) σ49 (fun y54 σ55 =>
bindO False (vPick v34 (.bool true) (y54 53).pv) fun v57 =>
weakW σ v57 σ55 fun v σ => R (.ret v) σ))))))) (fun e58 σ59 => R (.pan e58) σ59))))) (fun e60 σ61 => R (.pan e60) σ61)) (fun e62 σ63 => R (.pan e62) σ63)) (fun e64 σ65 => R (.pan e64) σ65)

theorem fn4_eq (W : CallP) (a0 : PV) (σ : St) (R : Res → St → Prop) : bodyC (algP W) Tryz.prog annF 4 [a0] σ R = fn4 Tryz.prog W a0 σ R := by kernel_rfl

/-- environ/environlaw31.CodeInsts -/
def fn5 (Pr : Program) (W : CallP) (a0 : PV) (σ : St) (R : Res → St → Prop) : Prop :=
callB W 12 [] σ (fun v0 σ1 =>
bindO False (vUn .not v0) fun v2 =>
guardG False v2 false (fun J3 =>
bindO False (vLen .str a0 σ1) fun v6 =>
bindO False (vBin none .gtr v6 (.int .i64 200)) fun v7 =>
J3 (lookE [(12, (.v a0)), (13, (.v v6)), (14, (.v v7))]) σ1) σ1 (fun y4 σ5 =>
bindO False (vPick v2 (.bool true) (y4 14).pv) fun v8 =>
condW v8 (
callB W 12 [] σ5 (fun v9 σ10 =>
weakW σ v9 σ10 fun v σ => R (.ret v) σ) (fun e11 σ12 => R (.pan e11) σ12)) (
callB W 21 [a0] σ5 (fun v13 σ14 =>
bindO False (vExtract v13 0) fun v15 =>
bindO False (vExtract v13 1) fun v16 =>
bindO False (vPut 12 (.agg [(.int .i64 0), (.int .i64 0), (.int .i64 0), (.int .i64 0), (.int .i64 0), (.int .i64 0), (.int .i64 0), (.int .i64 0), (.int .i64 0), (.int .i64 0), (.int .i64 0), (.int .i64 0)]) 0 v15) fun z17 =>
callB W 22 [a0] σ14 (fun v18 σ19 =>
bindO False (vExtract v18 0) fun v20 =>
bindO False (vExtract v18 1) fun v21 =>
bindO False (vPut 12 (.agg [(.int .i64 0), (.int .i64 0), (.int .i64 0), (.int .i64 0), (.int .i64 0), (.int .i64 0), (.int .i64 0), (.int .i64 0), (.int .i64 0), (.int .i64 0), (.int .i64 0), (.int .i64 0)]) 0 v20) fun z22 =>
bindO False (vPart true 12 z17 0) fun v23 =>
bindO False (vPart true 12 z22 0) fun v24 =>
bindO False (vBin (some (.st [.int, .int, .int, .int, .int, .int, .int, .int, .int, .int, .int, .int])) .neq v23 v24) fun v25 =>
guardG False v25 false (fun J26 =>
bindO False (vBin none .neq v16 v21) fun v29 =>
J26 (lookE [(31, (.v v16)), (32, (.v v21)), (33, (.v v29))]) σ19) σ19 (fun y27 σ28 =>
bindO False (vPick v25 (.bool true) (y27 33).pv) fun v30 =>
condW v30 (
weakW σ (.bool false) σ28 fun v σ => R (.ret v) σ) (
bindO False (vPart true 12 z17 0) fun v31 =>
callB W 19 [v31] σ28 (fun v32 σ33 =>
bindO False (vExtract v32 0) fun v34 =>
bindO False (vExtract v32 1) fun v35 =>
bindO False (vBin none .neq v16 (.int .i64 0)) fun v36 =>
guardG False v36 false (fun J37 =>
bindO False (vBin none .eql v35 (.int .i64 0)) fun v40 =>
J37 (lookE [(43, (.v v35)), (44, (.v v40)), (45, (.v v40))]) σ33) σ33 (fun y38 σ39 =>
guardG False (y38 45).pv true (fun J41 =>
bindO False (vBin none .eql v34 a0) fun v44 =>
J41 (lookE [(46, (.v v34)), (47, (.v a0)), (48, (.v v44))]) σ39) σ39 (fun y42 σ43 =>
guardG False v36 false (fun J45 =>
bindO False (vPick (y38 45).pv (y42 48).pv (.bool false)) fun v48 =>
J45 (lookE [(49, (.v v48))]) σ43) σ43 (fun y46 σ47 =>
bindO False (vPick v36 (.bool true) (y46 49).pv) fun v49 =>
weakW σ v49 σ47 fun v σ => R (.ret v) σ)))) (fun e50 σ51 => R (.pan e50) σ51)))) (fun e52 σ53 => R (.pan e52) σ53)) (fun e54 σ55 => R (.pan e54) σ55)))) (fun e56 σ57 => R (.pan e56) σ57)

theorem fn5_eq (W : CallP) (a0 : PV) (σ : St) (R : Res → St → Prop) : bodyC (algP W) Tryz.prog annF 5 [a0] σ R = fn5 Tryz.prog W a0 σ R := by kernel_rfl

/-- environ/code.Line -/
def fn19 (Pr : Program) (W : CallP) (a0 : PV) (σ : St) (R : Res → St → Prop) : Prop :=
bindO False (opC.vBoxAny a0) fun z0 =>
bindO False (vPart true 3 z0.2 1) fun v1 =>
bindO False (vPart true 3 z0.2 4) fun v2 =>
bindO False (vPart true 3 z0.2 7) fun v3 =>
bindO False (vBuildSl 3 (List.replicate 3 (.agg [(.int .i64 0), (.int .i64 0), (.int .i64 0)])) [(0, v1), (1, v2), (2, v3)]) fun v4 =>
bindO False (vPart false 1 z0.2 0) fun v5 =>
callB W 39 [v5] σ (fun v6 σ7 =>
bindO False (vUn .not v6) fun v8 =>
guardG False v8 false (fun J9 =>
callB W 40 [(.list .full v4), (.func 41 0 [])] σ7 (fun v12 σ13 =>
J9 (lookE [(22, (.v (.list .full v4))), (23, (.v v12))]) σ13) (fun e14 σ15 => R (.pan e14) σ15)) σ7 (fun y10 σ11 =>
bindO False (vPick v8 (.bool true) (y10 23).pv) fun v16 =>
condW v16 (
weakW σ (.tuple [(.str []), (.int .i64 13)]) σ11 fun v σ => R (.ret v) σ) (
bindO False (vPart false 1 z0.2 0) fun v17 =>
bindO False (vArrOff 2 40 v17) fun k18 =>
bindO False (vField k18 (globPV 0)) fun v19 =>
bindO False (vField 0 v19) fun v20 =>
bindO False (vLoad false 1 v20 σ11) fun v21 =>
bindO False (vLen .sl (.list .full v4) σ11) fun v22 =>
packW [(5, v21), (30, (.list .full v4)), (31, v22), (32, (.int .i64 0)), (1, z0.2)] fun x56 =>
Lfp σ (fun Φ23 x24 σ25 =>
bindO False (vBin none .lss (x24 32) (x24 31)) fun v26 =>
condW v26 (
bindO False (vIndex 3 (x24 30) (x24 32)) fun v27 =>
bindO False (vLoad true 3 v27 σ25) fun v28 =>
bindO False (vPut 3 (.agg [(.int .i64 0), (.int .i64 0), (.int .i64 0)]) 0 v28) fun z29 =>
bindO False (vPart true 3 z29 0) fun v30 =>
callB W 43 [v30] σ25 (fun v31 σ32 =>
bindO False (vExtract v31 0) fun v33 =>
bindO False (vExtract v31 1) fun v34 =>
bindO False (vBin none .neq v34 (.int .i64 0)) fun v35 =>
condW v35 (
weakW σ (.tuple [(.str []), v34]) σ32 fun v σ => R (.ret v) σ) (
bindO False (vBin none .add (.str [32]) v33) fun v36 =>
bindO False (vBin none .add (x24 5) v36) fun v37 =>
bindO False (vBin none .add (x24 32) (.int .i64 1)) fun v38 =>
packW [(5, v37), (30, (x24 30)), (31, (x24 31)), (32, v38), (1, (x24 1))] fun x39 => Φ23 x39 σ32)) (fun e40 σ41 => R (.pan e40) σ41)) (
bindO False (vBin none .add (x24 5) (.str [32])) fun v42 =>
bindO False (vPart false 1 (x24 1) 10) fun v43 =>
bindO False (vPart false 1 (x24 1) 11) fun v44 =>
callB W 44 [v43, (.int .i64 10)] σ25 (fun v45 σ46 =>
bindO False (vBin none .add v42 v45) fun v47 =>
bindO False (vBin none .add v47 (.str [32])) fun v48 =>
callB W 45 [v44] σ46 (fun v49 σ50 =>
bindO False (vBin none .add v48 v49) fun v51 =>
weakW σ (.tuple [v51, (.int .i64 0)]) σ50 fun v σ => R (.ret v) σ) (fun e52 σ53 => R (.pan e52) σ53)) (fun e54 σ55 => R (.pan e54) σ55))) x56 σ11))) (fun e57 σ58 => R (.pan e57) σ58)

theorem fn19_eq (W : CallP) (a0 : PV) (σ : St) (R : Res → St → Prop) : bodyC (algP W) Tryz.prog annF 19 [a0] σ R = fn19 Tryz.prog W a0 σ R := by kernel_rfl

/-- environ/environref31.Line -/
def fn20 (Pr : Program) (W : CallP) (a0 : PV) (σ : St) (R : Res → St → Prop) : Prop :=
bindO False (opC.vBoxAny a0) fun z0 =>
bindO False (vPart false 1 z0.2 0) fun v1 =>
callB W 16 [v1] σ (fun v2 σ3 =>
bindO False (vBin none .eql v2 (.str [])) fun v4 =>
condW v4 (
weakW σ (.tuple [(.str []), (.int .i64 13)]) σ3 fun v σ => R (.ret v) σ) (
bindO False (vPart true 3 z0.2 1) fun v5 =>
bindO False (vPart true 3 z0.2 4) fun v6 =>
bindO False (vPart true 3 z0.2 7) fun v7 =>
bindO False (vBuildSl 3 (List.replicate 3 (.agg [(.int .i64 0), (.int .i64 0), (.int .i64 0)])) [(0, v5), (1, v6), (2, v7)]) fun v8 =>
CutW σ (fun J9 =>
packW [(4, v2), (5, (.list .full v8)), (6, (.int .i64 0)), (1, z0.2)] fun x31 =>
Lfp σ (fun Φ12 x13 σ14 =>
bindO False (vBin none .lss (x13 6) (.int .i64 3)) fun v15 =>
condW v15 (
bindO False (vIndex 3 (x13 5) (x13 6)) fun v16 =>
bindO False (vField 0 v16) fun v17 =>
bindO False (vLoad false 1 v17 σ14) fun v18 =>
bindO False (vBin none .lss v18 (.int .i64 0)) fun v19 =>
guardG False v19 false (fun J20 =>
bindO False (vIndex 3 (x13 5) (x13 6)) fun v23 =>
bindO False (vField 0 v23) fun v24 =>
bindO False (vLoad false 1 v24 σ14) fun v25 =>
bindO False (vBin none .geq v25 (.int .i64 3)) fun v26 =>
J20 (lookE [(33, (.v (x13 5))), (34, (.v (x13 6))), (35, (.v v23)), (36, (.v v24)), (37, (.v v25)), (38, (.v v26))]) σ14) σ14 (fun y21 σ22 =>
bindO False (vPick v19 (.bool true) (y21 38).pv) fun v27 =>
condW v27 (
weakW σ (.tuple [(.str []), (.int .i64 13)]) σ22 fun v σ => R (.ret v) σ) (
bindO False (vBin none .add (x13 6) (.int .i64 1)) fun v28 =>
packW [(4, (x13 4)), (5, (x13 5)), (6, v28), (1, (x13 1))] fun x29 => Φ12 x29 σ22))) (
packW [(4, (x13 4)), (5, (x13 5)), (1, (x13 1))] fun x30 => J9 x30 σ14)) x31 σ3) (fun x10 σ11 =>
CutW σ (fun J32 =>
packW [(4, (x10 4)), (5, (x10 5)), (7, (.int .i64 0)), (1, (x10 1))] fun x53 =>
Lfp σ (fun Φ35 x36 σ37 =>
bindO False (vBin none .lss (x36 7) (.int .i64 3)) fun v38 =>
condW v38 (
bindO False (vIndex 3 (x36 5) (x36 7)) fun v39 =>
bindO False (vLoad true 3 v39 σ37) fun v40 =>
callB W 46 [v40] σ37 (fun v41 σ42 =>
bindO False (vExtract v41 0) fun v43 =>
bindO False (vExtract v41 1) fun v44 =>
bindO False (vBin none .neq v44 (.int .i64 0)) fun v45 =>
condW v45 (
weakW σ (.tuple [(.str []), v44]) σ42 fun v σ => R (.ret v) σ) (
bindO False (vBin none .add (.str [32]) v43) fun v46 =>
bindO False (vBin none .add (x36 4) v46) fun v47 =>
bindO False (vBin none .add (x36 7) (.int .i64 1)) fun v48 =>
packW [(4, v47), (5, (x36 5)), (7, v48), (1, (x36 1))] fun x49 => Φ35 x49 σ42)) (fun e50 σ51 => R (.pan e50) σ51)) (
packW [(4, (x36 4)), (1, (x36 1))] fun x52 => J32 x52 σ37)) x53 σ11) (fun x33 σ34 =>
bindO False (vBin none .add (x33 4) (.str [32])) fun v54 =>
bindO False (vPart false 1 (x33 1) 10) fun v55 =>
bindO False (vPart false 1 (x33 1) 11) fun v56 =>
callB W 47 [v55] σ34 (fun v57 σ58 =>
bindO False (vBin none .add v54 v57) fun v59 =>
bindO False (vBin none .add v59 (.str [32])) fun v60 =>
callB W 47 [v56] σ58 (fun v61 σ62 =>
bindO False (vBin none .add v60 v61) fun v63 =>
weakW σ (.tuple [v63, (.int .i64 0)]) σ62 fun v σ => R (.ret v) σ) (fun e64 σ65 => R (.pan e64) σ65)) (fun e66 σ67 => R (.pan e66) σ67))))) (fun e68 σ69 => R (.pan e68) σ69)

theorem fn20_eq (W : CallP) (a0 : PV) (σ : St) (R : Res → St → Prop) : bodyC (algP W) Tryz.prog annF 20 [a0] σ R = fn20 Tryz.prog W a0 σ R := by kernel_rfl

/-- environ/code.Inst -/
def fn21 (Pr : Program) (W : CallP) (a0 : PV) (σ : St) (R : Res → St → Prop) : Prop :=
callB W 48 [a0, (.str [32])] σ (fun v0 σ1 =>
bindO False (vLen .sl v0 σ1) fun v2 =>
bindO False (vBin none .neq v2 (.int .i64 6)) fun v3 =>
condW v3 (
bindO False (vBuild [(.int .i64 0), (.int .i64 0), (.int .i64 0), (.int .i64 0), (.int .i64 0), (.int .i64 0), (.int .i64 0), (.int .i64 0), (.int .i64 0), (.int .i64 0), (.int .i64 0), (.int .i64 0)] []) fun v4 =>
bindO False (vPut 12 (.agg [(.int .i64 0), (.int .i64 0), (.int .i64 0), (.int .i64 0), (.int .i64 0), (.int .i64 0), (.int .i64 0), (.int .i64 0), (.int .i64 0), (.int .i64 0), (.int .i64 0), (.int .i64 0)]) 0 (.agg v4)) fun z5 =>
bindO False (resCons (vPart true 12 z5 0) (resCons (some (.int .i64 9)) (some []))) fun vs => weakW σ (vResults vs) σ1 fun v σ => R (.ret v) σ) (
bindO False (vIndex 1 v0 (.int .i64 4)) fun v6 =>
bindO False (vLoad false 1 v6 σ1) fun v7 =>
callB W 49 [v7, (.int .i64 10), (.int .i64 64)] σ1 (fun v8 σ9 =>
bindO False (vExtract v8 0) fun v10 =>
bindO False (vExtract v8 1) fun v11 =>
bindO False (vIndex 1 v0 (.int .i64 5)) fun v12 =>
bindO False (vLoad false 1 v12 σ9) fun v13 =>
callB W 50 [v13] σ9 (fun v14 σ15 =>
bindO False (vExtract v14 0) fun v16 =>
bindO False (vExtract v14 1) fun v17 =>
bindO False (vIndex 1 v0 (.int .i64 0)) fun v18 =>
bindO False (vLoad false 1 v18 σ15) fun v19 =>
callB W 13 [v19] σ15 (fun v20 σ21 =>
bindO False (vExtract v20 0) fun v22 =>
bindO False (vExtract v20 1) fun v23 =>
bindO False (vIndex 1 v0 (.int .i64 1)) fun v24 =>
bindO False (vLoad false 1 v24 σ21) fun v25 =>
bindO False (vIndex 1 v0 (.int .i64 2)) fun v26 =>
bindO False (vLoad false 1 v26 σ21) fun v27 =>
bindO False (vIndex 1 v0 (.int .i64 3)) fun v28 =>
bindO False (vLoad false 1 v28 σ21) fun v29 =>
callC W 51 [v25] σ21 fun v30 _ =>
callC W 51 [v27] σ21 fun v31 _ =>
callB W 51 [v29] σ21 (fun v32 σ33 =>
bindO False (vBuild [(.int .i64 0), (.int .i64 0), (.int .i64 0), (.int .i64 0), (.int .i64 0), (.int .i64 0), (.int .i64 0), (.int .i64 0), (.int .i64 0), (.int .i64 0), (.int .i64 0), (.int .i64 0)] [(0, 1, v22), (1, 3, v30), (4, 3, v31), (7, 3, v32), (10, 1, v10), (11, 1, v16)]) fun v34 =>
bindO False (vPut 12 (.agg [(.int .i64 0), (.int .i64 0), (.int .i64 0), (.int .i64 0), (.int .i64 0), (.int .i64 0), (.int .i64 0), (.int .i64 0), (.int .i64 0), (.int .i64 0), (.int .i64 0), (.int .i64 0)]) 0 (.agg v34)) fun z35 =>
bindO False (vPart true 12 z35 0) fun v36 =>
callB W 19 [v36] σ33 (fun v37 σ38 =>
bindO False (vExtract v37 0) fun v39 =>
bindO False (vExtract v37 1) fun v40 =>
bindO False (vUn .not v23) fun v41 =>
guardG False v41 false (fun J42 =>
bindO False (vBin none .neq v40 (.int .i64 0)) fun v45 =>
J42 (lookE [(65, (.v v40)), (66, (.v v45))]) σ38) σ38 (fun y43 σ44 =>
bindO False (vPick v41 (.bool true) (y43 66).pv) fun v46 =>
guardG False v46 false (fun J47 =>
bindO False (vBin none .neq v39 a0) fun v50 =>
J47 (lookE [(69, (.v v39)), (70, (.v a0)), (71, (.v v50))]) σ44) σ44 (fun y48 σ49 =>
bindO False (vPick v46 (.bool true) (y48 71).pv) fun v51 =>
condW v51 (
bindO False (vBuild [(.int .i64 0), (.int .i64 0), (.int .i64 0), (.int .i64 0), (.int .i64 0), (.int .i64 0), (.int .i64 0), (.int .i64 0), (.int .i64 0), (.int .i64 0), (.int .i64 0), (.int .i64 0)] []) fun v52 =>
bindO False (vPut 12 (.agg [(.int .i64 0), (.int .i64 0), (.int .i64 0), (.int .i64 0), (.int .i64 0), (.int .i64 0), (.int .i64 0), (.int .i64 0), (.int .i64 0), (.int .i64 0), (.int .i64 0), (.int .i64 0)]) 0 (.agg v52)) fun z53 =>
bindO False (resCons (vPart true 12 z53 0) (resCons (some (.int .i64 9)) (some []))) fun vs => weakW σ (vResults vs) σ49 fun v σ => R (.ret v) σ) (
bindO False (vPart true 12 z35 0) fun v54 =>
bindO False (vPut 12 (.agg [(.int .i64 0), (.int .i64 0), (.int .i64 0), (.int .i64 0), (.int .i64 0), (.int .i64 0), (.int .i64 0), (.int .i64 0), (.int .i64 0), (.int .i64 0), (.int .i64 0), (.int .i64 0)]) 0 v54) fun z55 =>
bindO False (resCons (vPart true 12 z55 0) (resCons (some (.int .i64 0)) (some []))) fun vs => weakW σ (vResults vs) σ49 fun v σ => R (.ret v) σ)))) (fun e56 σ57 => R (.pan e56) σ57)) (fun e58 σ59 => False)) (fun e60 σ61 => R (.pan e60) σ61)) (fun e62 σ63 => R (.pan e62) σ63)) (fun e64 σ65 => R (.pan e64) σ65))) (fun e66 σ67 => R (.pan e66) σ67)

theorem fn21_eq (W : CallP) (a0 : PV) (σ : St) (R : Res → St → Prop) : bodyC (algP W) Tryz.prog annF 21 [a0] σ R = fn21 Tryz.prog W a0 σ R := by kernel_rfl

/-- environ/environref31.Inst -/
def fn22 (Pr : Program) (W : CallP) (a0 : PV) (σ : St) (R : Res → St → Prop) : Prop :=
bindO False (vLen .str a0 σ) fun v0 =>
bindO False (vBin none .gtr v0 (.int .i64 1000)) fun v1 =>
condW v1 (
bindO False (vBuild [(.int .i64 0), (.int .i64 0), (.int .i64 0), (.int .i64 0), (.int .i64 0), (.int .i64 0), (.int .i64 0), (.int .i64 0), (.int .i64 0), (.int .i64 0), (.int .i64 0), (.int .i64 0)] []) fun v2 =>
bindO False (vPut 12 (.agg [(.int .i64 0), (.int .i64 0), (.int .i64 0), (.int .i64 0), (.int .i64 0), (.int .i64 0), (.int .i64 0), (.int .i64 0), (.int .i64 0), (.int .i64 0), (.int .i64 0), (.int .i64 0)]) 0 (.agg v2)) fun z3 =>
bindO False (resCons (vPart true 12 z3 0) (resCons (some (.int .i64 9)) (some []))) fun vs => weakW σ (vResults vs) σ fun v σ => R (.ret v) σ) (
callB W 52 [a0] σ (fun v4 σ5 =>
bindO False (vLen .sl v4 σ5) fun v6 =>
bindO False (vBin none .neq v6 (.int .i64 6)) fun v7 =>
condW v7 (
bindO False (vBuild [(.int .i64 0), (.int .i64 0), (.int .i64 0), (.int .i64 0), (.int .i64 0), (.int .i64 0), (.int .i64 0), (.int .i64 0), (.int .i64 0), (.int .i64 0), (.int .i64 0), (.int .i64 0)] []) fun v8 =>
bindO False (vPut 12 (.agg [(.int .i64 0), (.int .i64 0), (.int .i64 0), (.int .i64 0), (.int .i64 0), (.int .i64 0), (.int .i64 0), (.int .i64 0), (.int .i64 0), (.int .i64 0), (.int .i64 0), (.int .i64 0)]) 0 (.agg v8)) fun z9 =>
bindO False (resCons (vPart true 12 z9 0) (resCons (some (.int .i64 9)) (some []))) fun vs => weakW σ (vResults vs) σ5 fun v σ => R (.ret v) σ) (
bindO False (vIndex 1 v4 (.int .i64 0)) fun v10 =>
bindO False (vLoad false 1 v10 σ5) fun v11 =>
callB W 14 [v11] σ5 (fun v12 σ13 =>
bindO False (vExtract v12 0) fun v14 =>
bindO False (vExtract v12 1) fun v15 =>
bindO False (vIndex 1 v4 (.int .i64 1)) fun v16 =>
bindO False (vLoad false 1 v16 σ13) fun v17 =>
callB W 53 [v17] σ13 (fun v18 σ19 =>
bindO False (vExtract v18 0) fun v20 =>
bindO False (vExtract v18 1) fun v21 =>
bindO False (vPut 3 (.agg [(.int .i64 0), (.int .i64 0), (.int .i64 0)]) 0 v20) fun z22 =>
bindO False (vIndex 1 v4 (.int .i64 2)) fun v23 =>
bindO False (vLoad false 1 v23 σ19) fun v24 =>
callB W 53 [v24] σ19 (fun v25 σ26 =>
bindO False (vExtract v25 0) fun v27 =>
bindO False (vExtract v25 1) fun v28 =>
bindO False (vPut 3 (.agg [(.int .i64 0), (.int .i64 0), (.int .i64 0)]) 0 v27) fun z29 =>
bindO False (vIndex 1 v4 (.int .i64 3)) fun v30 =>
bindO False (vLoad false 1 v30 σ26) fun v31 =>
callB W 53 [v31] σ26 (fun v32 σ33 =>
bindO False (vExtract v32 0) fun v34 =>
bindO False (vExtract v32 1) fun v35 =>
bindO False (vPut 3 (.agg [(.int .i64 0), (.int .i64 0), (.int .i64 0)]) 0 v34) fun z36 =>
bindO False (vIndex 1 v4 (.int .i64 4)) fun v37 =>
bindO False (vLoad false 1 v37 σ33) fun v38 =>
callB W 54 [v38] σ33 (fun v39 σ40 =>
bindO False (vExtract v39 0) fun v41 =>
bindO False (vExtract v39 1) fun v42 =>
bindO False (vIndex 1 v4 (.int .i64 5)) fun v43 =>
bindO False (vLoad false 1 v43 σ40) fun v44 =>
callB W 54 [v44] σ40 (fun v45 σ46 =>
bindO False (vExtract v45 0) fun v47 =>
bindO False (vExtract v45 1) fun v48 =>
bindO False (vUn .not v15) fun v49 =>
guardG False v49 false (fun J50 =>
bindO False (vUn .not v21) fun v53 =>
J50 (lookE [(72, (.v v21)), (73, (.v v53))]) σ46) σ46 (fun y51 σ52 =>
bindO False (vPick v49 (.bool true) (y51 73).pv) fun v54 =>
guardG False v54 false (fun J55 =>
bindO False (vUn .not v28) fun v58 =>
J55 (lookE [(76, (.v v28)), (77, (.v v58))]) σ52) σ52 (fun y56 σ57 =>
bindO False (vPick v54 (.bool true) (y56 77).pv) fun v59 =>
guardG False v59 false (fun J60 =>
bindO False (vUn .not v35) fun v63 =>
J60 (lookE [(80, (.v v35)), (81, (.v v63))]) σ57) σ57 (fun y61 σ62 =>
bindO False (vPick v59 (.bool true) (y61 81).pv) fun v64 =>
guardG False v64 false (fun J65 =>
bindO False (vUn .not v42) fun v68 =>
J65 (lookE [(84, (.v v42)), (85, (.v v68))]) σ62) σ62 (fun y66 σ67 =>
bindO False (vPick v64 (.bool true) (y66 85).pv) fun v69 =>
guardG False v69 false (fun J70 =>
bindO False (vUn .not v48) fun v73 =>
J70 (lookE [(88, (.v v48)), (89, (.v v73))]) σ67) σ67 (fun y71 σ72 =>
bindO False (vPick v69 (.bool true) (y71 89).pv) fun v74 =>
condW v74 (
bindO False (vBuild [(.int .i64 0), (.int .i64 0), (.int .i64 0), (.int .i64 0), (.int .i64 0), (.int .i64 0), (.int .i64 0), (.int .i64 0), (.int .i64 0), (.int .i64 0), (.int .i64 0), (.int .i64 0)] []) fun v75 =>
bindO False (vPut 12 (.agg [(.int .i64 0), (.int .i64 0), (.int .i64 0), (.int .i64 0), (.int .i64 0), (.int .i64 0), (.int .i64 0), (.int .i64 0), (.int .i64 0), (.int .i64 0), (.int .i64 0), (.int .i64 0)]) 0 (.agg v75)) fun z76 =>
bindO False (resCons (vPart true 12 z76 0) (resCons (some (.int .i64 9)) (some []))) fun vs => weakW σ (vResults vs) σ72 fun v σ => R (.ret v) σ) (
bindO False (vPart true 3 z22 0) fun v77 =>
bindO False (vPart true 3 z29 0) fun v78 =>
bindO False (vPart true 3 z36 0) fun v79 =>
bindO False (vBuild [(.int .i64 0), (.int .i64 0), (.int .i64 0), (.int .i64 0), (.int .i64 0), (.int .i64 0), (.int .i64 0), (.int .i64 0), (.int .i64 0), (.int .i64 0), (.int .i64 0), (.int .i64 0)] [(0, 1, v14), (1, 3, v77), (4, 3, v78), (7, 3, v79), (10, 1, v41), (11, 1, v47)]) fun v80 =>
bindO False (vPut 12 (.agg [(.int .i64 0), (.int .i64 0), (.int .i64 0), (.int .i64 0), (.int .i64 0), (.int .i64 0), (.int .i64 0), (.int .i64 0), (.int .i64 0), (.int .i64 0), (.int .i64 0), (.int .i64 0)]) 0 (.agg v80)) fun z81 =>
bindO False (resCons (vPart true 12 z81 0) (resCons (some (.int .i64 0)) (some []))) fun vs => weakW σ (vResults vs) σ72 fun v σ => R (.ret v) σ))))))) (fun e82 σ83 => R (.pan e82) σ83)) (fun e84 σ85 => R (.pan e84) σ85)) (fun e86 σ87 => R (.pan e86) σ87)) (fun e88 σ89 => R (.pan e88) σ89)) (fun e90 σ91 => R (.pan e90) σ91)) (fun e92 σ93 => R (.pan e92) σ93))) (fun e94 σ95 => R (.pan e94) σ95))

theorem fn22_eq (W : CallP) (a0 : PV) (σ : St) (R : Res → St → Prop) : bodyC (algP W) Tryz.prog annF 22 [a0] σ R = fn22 Tryz.prog W a0 σ R := by kernel_rfl

/-- environ/code.Line$1 -/
def fn41 (Pr : Program) (W : CallP) (a0 : PV) (σ : St) (R : Res → St → Prop) : Prop :=
bindO False (opC.vBoxAny a0) fun z0 =>
bindO False (vPart false 1 z0.2 0) fun v1 =>
callB W 42 [v1, (.int .i64 3)] σ (fun v2 σ3 =>
bindO False (vUn .not v2) fun v4 =>
weakW σ v4 σ3 fun v σ => R (.ret v) σ) (fun e5 σ6 => R (.pan e5) σ6)

theorem fn41_eq (W : CallP) (a0 : PV) (σ : St) (R : Res → St → Prop) : bodyC (algP W) Tryz.prog annF 41 [a0] σ R = fn41 Tryz.prog W a0 σ R := by kernel_rfl

/-- environ/code.within -/
def fn42 (Pr : Program) (W : CallP) (a0 a1 : PV) (σ : St) (R : Res → St → Prop) : Prop :=
bindO False (vBin none .geq a0 (.int .i64 0)) fun v0 =>
guardG False v0 true (fun J1 =>
bindO False (vBin none .lss a0 a1) fun v4 =>
J1 (lookE [(8, (.v a0)), (9, (.v a1)), (10, (.v v4))]) σ) σ (fun y2 σ3 =>
bindO False (vPick v0 (y2 10).pv (.bool false)) fun v5 =>
weakW σ v5 σ3 fun v σ => R (.ret v) σ)

theorem fn42_eq (W : CallP) (a0 a1 : PV) (σ : St) (R : Res → St → Prop) : bodyC (algP W) Tryz.prog annF 42 [a0, a1] σ R = fn42 Tryz.prog W a0 a1 σ R := by kernel_rfl

/-- environ/code.spell -/
def fn43 (Pr : Program) (W : CallP) (a0 : PV) (σ : St) (R : Res → St → Prop) : Prop :=
bindO False (opC.vBoxAny a0) fun z0 =>
bindO False (vPart false 1 z0.2 0) fun v1 =>
bindO False (vBin none .eql v1 (.int .i64 0)) fun v2 =>
condW v2 (
bindO False (vPart false 1 z0.2 1) fun v3 =>
bindO False (vBin none .neq v3 (.int .i64 0)) fun v4 =>
guardG False v4 false (fun J5 =>
bindO False (vPart false 1 z0.2 2) fun v8 =>
bindO False (vBin none .neq v8 (.int .i64 0)) fun v9 =>
J5 (lookE [(13, (.loc 1 2)), (14, (.v v8)), (15, (.v v9))]) σ) σ (fun y6 σ7 =>
bindO False (vPick v4 (.bool true) (y6 15).pv) fun v10 =>
condW v10 (
weakW σ (.tuple [(.str []), (.int .i64 11)]) σ7 fun v σ => R (.ret v) σ) (
weakW σ (.tuple [(.str [45]), (.int .i64 0)]) σ7 fun v σ => R (.ret v) σ))) (
bindO False (vBin none .eql v1 (.int .i64 1)) fun v11 =>
condW v11 (
bindO False (vPart false 1 z0.2 1) fun v12 =>
bindO False (vPart false 1 z0.2 2) fun v13 =>
callB W 45 [v12] σ (fun v14 σ15 =>
bindO False (vBin none .add (.str [115]) v14) fun v16 =>
bindO False (vBin none .add v16 (.str [46])) fun v17 =>
callB W 45 [v13] σ15 (fun v18 σ19 =>
bindO False (vBin none .add v17 v18) fun v20 =>
weakW σ (.tuple [v20, (.int .i64 0)]) σ19 fun v σ => R (.ret v) σ) (fun e21 σ22 => R (.pan e21) σ22)) (fun e23 σ24 => R (.pan e23) σ24)) (
bindO False (vBin none .eql v1 (.int .i64 2)) fun v25 =>
condW v25 (
bindO False (vPart false 1 z0.2 1) fun v26 =>
bindO False (vPart false 1 z0.2 2) fun v27 =>
callB W 45 [v26] σ (fun v28 σ29 =>
bindO False (vBin none .add (.str [114]) v28) fun v30 =>
bindO False (vBin none .add v30 (.str [46])) fun v31 =>
callB W 45 [v27] σ29 (fun v32 σ33 =>
bindO False (vBin none .add v31 v32) fun v34 =>
weakW σ (.tuple [v34, (.int .i64 0)]) σ33 fun v σ => R (.ret v) σ) (fun e35 σ36 => R (.pan e35) σ36)) (fun e37 σ38 => R (.pan e37) σ38)) (
weakW σ (.tuple [(.str []), (.int .i64 13)]) σ fun v σ => R (.ret v) σ)))

theorem fn43_eq (W : CallP) (a0 : PV) (σ : St) (R : Res → St → Prop) : bodyC (algP W) Tryz.prog annF 43 [a0] σ R = fn43 Tryz.prog W a0 σ R := by kernel_rfl

/-- environ/environref31.word -/
def fn46 (Pr : Program) (W : CallP) (a0 : PV) (σ : St) (R : Res → St → Prop) : Prop :=
bindO False (opC.vBoxAny a0) fun z0 =>
bindO False (vPart false 1 z0.2 0) fun v1 =>
bindO False (vBin none .eql v1 (.int .i64 0)) fun v2 =>
guardG False v2 true (fun J3 =>
bindO False (vPart false 1 z0.2 1) fun v6 =>
bindO False (vBin none .neq v6 (.int .i64 0)) fun v7 =>
J3 (lookE [(9, (.loc 1 1)), (10, (.v v6)), (11, (.v v7)), (12, (.v v7))]) σ) σ (fun y4 σ5 =>
guardG False (y4 12).pv false (fun J8 =>
bindO False (vPart false 1 z0.2 2) fun v11 =>
bindO False (vBin none .neq v11 (.int .i64 0)) fun v12 =>
J8 (lookE [(13, (.loc 1 2)), (14, (.v v11)), (15, (.v v12))]) σ5) σ5 (fun y9 σ10 =>
guardG False v2 true (fun J13 =>
bindO False (vPick (y4 12).pv (.bool true) (y9 15).pv) fun v16 =>
J13 (lookE [(16, (.v v16))]) σ10) σ10 (fun y14 σ15 =>
bindO False (vPick v2 (y14 16).pv (.bool false)) fun v17 =>
condW v17 (
weakW σ (.tuple [(.str []), (.int .i64 11)]) σ15 fun v σ => R (.ret v) σ) (
bindO False (vPart false 1 z0.2 0) fun v18 =>
bindO False (vBin none .eql v18 (.int .i64 0)) fun v19 =>
condW v19 (
weakW σ (.tuple [(.str [45]), (.int .i64 0)]) σ15 fun v σ => R (.ret v) σ) (
bindO False (vPart false 1 z0.2 0) fun v20 =>
bindO False (vBin none .eql v20 (.int .i64 1)) fun v21 =>
condW v21 (
bindO False (vPart false 1 z0.2 1) fun v22 =>
bindO False (vPart false 1 z0.2 2) fun v23 =>
callB W 47 [v22] σ15 (fun v24 σ25 =>
bindO False (vBin none .add (.str [115]) v24) fun v26 =>
bindO False (vBin none .add v26 (.str [46])) fun v27 =>
callB W 47 [v23] σ25 (fun v28 σ29 =>
bindO False (vBin none .add v27 v28) fun v30 =>
weakW σ (.tuple [v30, (.int .i64 0)]) σ29 fun v σ => R (.ret v) σ) (fun e31 σ32 => R (.pan e31) σ32)) (fun e33 σ34 => R (.pan e33) σ34)) (
bindO False (vPart false 1 z0.2 0) fun v35 =>
bindO False (vBin none .eql v35 (.int .i64 2)) fun v36 =>
condW v36 (
bindO False (vPart false 1 z0.2 1) fun v37 =>
bindO False (vPart false 1 z0.2 2) fun v38 =>
callB W 47 [v37] σ15 (fun v39 σ40 =>
bindO False (vBin none .add (.str [114]) v39) fun v41 =>
bindO False (vBin none .add v41 (.str [46])) fun v42 =>
callB W 47 [v38] σ40 (fun v43 σ44 =>
bindO False (vBin none .add v42 v43) fun v45 =>
weakW σ (.tuple [v45, (.int .i64 0)]) σ44 fun v σ => R (.ret v) σ) (fun e46 σ47 => R (.pan e46) σ47)) (fun e48 σ49 => R (.pan e48) σ49)) (
weakW σ (.tuple [(.str []), (.int .i64 13)]) σ15 fun v σ => R (.ret v) σ)))))))

theorem fn46_eq (W : CallP) (a0 : PV) (σ : St) (R : Res → St → Prop) : bodyC (algP W) Tryz.prog annF 46 [a0] σ R = fn46 Tryz.prog W a0 σ R := by kernel_rfl

/-- environ/environref31.Digits -/
def fn47 (Pr : Program) (W : CallP) (a0 : PV) (σ : St) (R : Res → St → Prop) : Prop :=
bindO False (vConv .u64 a0) fun v0 =>
CutW σ (fun J1 =>
bindO False (vBin none .lss a0 (.int .i64 0)) fun v4 =>
condW v4 (
bindO False (vUn .neg v0) fun v5 =>
packW [(3, v5), (4, (.str [45]))] fun x6 => J1 x6 σ) (
packW [(3, v0), (4, (.str []))] fun x7 => J1 x7 σ)) (fun x2 σ3 =>
CutW σ (fun J8 =>
packW [(3, (x2 3)), (4, (x2 4)), (5, (.str []))] fun x24 =>
Lfp σ (fun Φ11 x12 σ13 =>
bindO False (vBin none .gtr (x12 3) (.int .u64 9)) fun v14 =>
condW v14 (
bindO False (vBin none .rem (x12 3) (.int .u64 10)) fun v15 =>
bindO False (vBin none .add (.int .u64 48) v15) fun v16 =>
bindO False (vConv .u8 v16) fun v17 =>
bindO False (vBuildSl 1 (List.replicate 1 (.int .u8 0)) [(0, v17)]) fun v18 =>
bindO False (vToStr (.list .full v18) σ13) fun v19 =>
bindO False (vBin none .add v19 (x12 5)) fun v20 =>
bindO False (vBin none .quo (x12 3) (.int .u64 10)) fun v21 =>
packW [(3, v21), (4, (x12 4)), (5, v20)] fun x22 => Φ11 x22 σ13) (
packW [(3, (x12 3)), (4, (x12 4)), (5, (x12 5))] fun x23 => J8 x23 σ13)) x24 σ3) (fun x9 σ10 =>
bindO False (vBin none .add (.int .u64 48) (x9 3)) fun v25 =>
bindO False (vConv .u8 v25) fun v26 =>
bindO False (vBuildSl 1 (List.replicate 1 (.int .u8 0)) [(0, v26)]) fun v27 =>
bindO False (vToStr (.list .full v27) σ10) fun v28 =>
bindO False (vBin none .add (x9 4) v28) fun v29 =>
bindO False (vBin none .add v29 (x9 5)) fun v30 =>
weakW σ v30 σ10 fun v σ => R (.ret v) σ))

theorem fn47_eq (W : CallP) (a0 : PV) (σ : St) (R : Res → St → Prop) : bodyC (algP W) Tryz.prog annF 47 [a0] σ R = fn47 Tryz.prog W a0 σ R := by kernel_rfl

/-- environ/code.read -/
def fn51 (Pr : Program) (W : CallP) (a0 : PV) (σ : St) (R : Res → St → Prop) : Prop :=
newMapW σ fun v0 σ1 =>
bindO False (vMapSet .str v0 (.str [115]) (.int .i64 1) σ1) fun σ2 =>
bindO False (vMapSet .str v0 (.str [114]) (.int .i64 2) σ2) fun σ3 =>
bindO False (vLen .str a0 σ3) fun v4 =>
bindO False (vBin none .lss v4 (.int .i64 2)) fun v5 =>
condW v5 (
bindO False (vBuild [(.int .i64 0), (.int .i64 0), (.int .i64 0)] []) fun v6 =>
bindO False (vPut 3 (.agg [(.int .i64 0), (.int .i64 0), (.int .i64 0)]) 0 (.agg v6)) fun z7 =>
bindO False (resCons (vPart true 3 z7 0) (some [])) fun vs => weakW σ (vResults vs) σ3 fun v σ => R (.ret v) σ) (
bindO False (vSubStr a0 (some (.int .i64 1)) none) fun v8 =>
callB W 96 [v8, (.str [46])] σ3 (fun v9 σ10 =>
bindO False (vExtract v9 0) fun v11 =>
bindO False (vExtract v9 1) fun v12 =>
bindO False (vExtract v9 2) fun v13 =>
callB W 50 [v11] σ10 (fun v14 σ15 =>
bindO False (vExtract v14 0) fun v16 =>
bindO False (vExtract v14 1) fun v17 =>
callB W 50 [v12] σ15 (fun v18 σ19 =>
bindO False (vExtract v18 0) fun v20 =>
bindO False (vExtract v18 1) fun v21 =>
bindO False (vSubStr a0 none (some (.int .i64 1))) fun v22 =>
bindO False (vLookup .str (.int .i64 0) false v0 v22 σ19) fun v23 =>
bindO False (vBuild [(.int .i64 0), (.int .i64 0), (.int .i64 0)] [(0, 1, v23), (1, 1, v16), (2, 1, v20)]) fun v24 =>
bindO False (vPut 3 (.agg [(.int .i64 0), (.int .i64 0), (.int .i64 0)]) 0 (.agg v24)) fun z25 =>
bindO False (resCons (vPart true 3 z25 0) (some [])) fun vs => weakW σ (vResults vs) σ19 fun v σ => R (.ret v) σ) (fun e26 σ27 => R (.pan e26) σ27)) (fun e28 σ29 => R (.pan e28) σ29)) (fun e30 σ31 => R (.pan e30) σ31))

theorem fn51_eq (W : CallP) (a0 : PV) (σ : St) (R : Res → St → Prop) : bodyC (algP W) Tryz.prog annF 51 [a0] σ R = fn51 Tryz.prog W a0 σ R := by kernel_rfl

/-- environ/environref31.words -/
def fn52 (Pr : Program) (W : CallP) (a0 : PV) (σ : St) (R : Res → St → Prop) : Prop :=
CutW σ (fun J0 =>
packW [(0, a0), (3, (.list .nil [])), (4, (.int .i64 0)), (5, (.int .i64 0))] fun x29 =>
Lfp σ (fun Φ3 x4 σ5 =>
bindO False (vLen .str (x4 0) σ5) fun v6 =>
bindO False (vBin none .leq (x4 5) v6) fun v7 =>
condW v7 (
CutW σ (fun J8 =>
bindO False (vLen .str (x4 0) σ5) fun v11 =>
bindO False (vBin none .eql (x4 5) v11) fun v12 =>
guardG False v12 false (fun J13 =>
bindO False (vStrAt (x4 0) (x4 5)) fun v16 =>
bindO False (vBin none .eql v16 (.int .u8 32)) fun v17 =>
J13 (lookE [(17, (.v (x4 0))), (18, (.v (x4 5))), (19, (.v v16)), (20, (.v v17))]) σ5) σ5 (fun y14 σ15 =>
bindO False (vPick v12 (.bool true) (y14 20).pv) fun v18 =>
condW v18 (
bindO False (vSubStr (x4 0) (some (x4 4)) (some (x4 5))) fun v19 =>
bindO False (vBuildSl 1 (List.replicate 1 (.str [])) [(0, v19)]) fun v20 =>
bindS (vAppend 1 16 (x4 3) (.list .full v20) σ15) fun v21 σ22 =>
bindO False (vBin none .add (x4 5) (.int .i64 1)) fun v23 =>
packW [(0, (x4 0)), (3, v21), (4, v23), (5, (x4 5))] fun x24 => J8 x24 σ22) (
packW [(0, (x4 0)), (3, (x4 3)), (4, (x4 4)), (5, (x4 5))] fun x25 => J8 x25 σ15))) (fun x9 σ10 =>
bindO False (vBin none .add (x9 5) (.int .i64 1)) fun v26 =>
packW [(0, (x9 0)), (3, (x9 3)), (4, (x9 4)), (5, v26)] fun x27 => Φ3 x27 σ10)) (
packW [(3, (x4 3))] fun x28 => J0 x28 σ5)) x29 σ) (fun x1 σ2 =>
weakW σ (x1 3) σ2 fun v σ => R (.ret v) σ)

theorem fn52_eq (W : CallP) (a0 : PV) (σ : St) (R : Res → St → Prop) : bodyC (algP W) Tryz.prog annF 52 [a0] σ R = fn52 Tryz.prog W a0 σ R := by kernel_rfl

/-- environ/environref31.oper -/
def fn53 (Pr : Program) (W : CallP) (a0 : PV) (σ : St) (R : Res → St → Prop) : Prop :=
bindO False (vBin none .eql a0 (.str [45])) fun v0 =>
condW v0 (
bindO False (vBuild [(.int .i64 0), (.int .i64 0), (.int .i64 0)] []) fun v1 =>
bindO False (vPut 3 (.agg [(.int .i64 0), (.int .i64 0), (.int .i64 0)]) 0 (.agg v1)) fun z2 =>
bindO False (resCons (vPart true 3 z2 0) (resCons (some (.bool true)) (some []))) fun vs => weakW σ (vResults vs) σ fun v σ => R (.ret v) σ) (
bindO False (vLen .str a0 σ) fun v3 =>
bindO False (vBin none .lss v3 (.int .i64 4)) fun v4 =>
guardG False v4 false (fun J5 =>
bindO False (vStrAt a0 (.int .i64 0)) fun v8 =>
bindO False (vBin none .neq v8 (.int .u8 115)) fun v9 =>
J5 (lookE [(17, (.v a0)), (18, (.v v8)), (19, (.v v9)), (20, (.v v9))]) σ) σ (fun y6 σ7 =>
guardG False (y6 20).pv true (fun J10 =>
bindO False (vStrAt a0 (.int .i64 0)) fun v13 =>
bindO False (vBin none .neq v13 (.int .u8 114)) fun v14 =>
J10 (lookE [(21, (.v a0)), (22, (.v v13)), (23, (.v v14))]) σ7) σ7 (fun y11 σ12 =>
guardG False v4 false (fun J15 =>
bindO False (vPick (y6 20).pv (y11 23).pv (.bool false)) fun v18 =>
J15 (lookE [(24, (.v v18))]) σ12) σ12 (fun y16 σ17 =>
bindO False (vPick v4 (.bool true) (y16 24).pv) fun v19 =>
condW v19 (
bindO False (vBuild [(.int .i64 0), (.int .i64 0), (.int .i64 0)] []) fun v20 =>
bindO False (vPut 3 (.agg [(.int .i64 0), (.int .i64 0), (.int .i64 0)]) 0 (.agg v20)) fun z21 =>
bindO False (resCons (vPart true 3 z21 0) (resCons (some (.bool false)) (some []))) fun vs => weakW σ (vResults vs) σ17 fun v σ => R (.ret v) σ) (
bindO False (vBuild [(.int .i64 0), (.int .i64 0), (.int .i64 0)] [(0, 1, (.int .i64 1))]) fun v22 =>
bindO False (vPut 3 (.agg [(.int .i64 0), (.int .i64 0), (.int .i64 0)]) 0 (.agg v22)) fun z23 =>
CutW σ (fun J24 =>
bindO False (vStrAt a0 (.int .i64 0)) fun v27 =>
bindO False (vBin none .eql v27 (.int .u8 114)) fun v28 =>
condW v28 (
bindO False (vPut 1 z23 0 (.int .i64 2)) fun z29 =>
packW [(0, a0), (2, (.agg [(.int .i64 0), (.int .i64 0), (.int .i64 0)])), (4, z29)] fun x30 => J24 x30 σ17) (
packW [(0, a0), (2, (.agg [(.int .i64 0), (.int .i64 0), (.int .i64 0)])), (4, z23)] fun x31 => J24 x31 σ17)) (fun x25 σ26 =>
CutW σ (fun J32 =>
packW [(0, (x25 0)), (5, (.int .i64 1)), (2, (x25 2)), (4, (x25 4))] fun x68 =>
Lfp σ (fun Φ35 x36 σ37 =>
bindO False (vLen .str (x36 0) σ37) fun v38 =>
bindO False (vBin none .lss (x36 5) v38) fun v39 =>
condW v39 (
bindO False (vStrAt (x36 0) (x36 5)) fun v40 =>
bindO False (vBin none .eql v40 (.int .u8 46)) fun v41 =>
condW v41 (
bindO False (vSubStr (x36 0) (some (.int .i64 1)) (some (x36 5))) fun v42 =>
callB W 54 [v42] σ37 (fun v43 σ44 =>
bindO False (vExtract v43 0) fun v45 =>
bindO False (vExtract v43 1) fun v46 =>
bindO False (vBin none .add (x36 5) (.int .i64 1)) fun v47 =>
bindO False (vSubStr (x36 0) (some v47) none) fun v48 =>
callB W 54 [v48] σ44 (fun v49 σ50 =>
bindO False (vExtract v49 0) fun v51 =>
bindO False (vExtract v49 1) fun v52 =>
bindO False (vPut 1 (x36 4) 1 v45) fun z53 =>
bindO False (vPut 1 z53 2 v51) fun z54 =>
bindO False (vPart true 3 z54 0) fun v55 =>
guardG False v46 true (fun J56 =>
J56 (lookE [(64, (.v v52))]) σ50) σ50 (fun y57 σ58 =>
bindO False (vPick v46 (y57 64).pv (.bool false)) fun v59 =>
bindO False (vPut 3 (x36 2) 0 v55) fun z60 =>
bindO False (resCons (vPart true 3 z60 0) (resCons (some v59) (some []))) fun vs => weakW σ (vResults vs) σ58 fun v σ => R (.ret v) σ)) (fun e61 σ62 => R (.pan e61) σ62)) (fun e63 σ64 => R (.pan e63) σ64)) (
bindO False (vBin none .add (x36 5) (.int .i64 1)) fun v65 =>
packW [(0, (x36 0)), (5, v65), (2, (x36 2)), (4, (x36 4))] fun x66 => Φ35 x66 σ37)) (
packW [(2, (x36 2))] fun x67 => J32 x67 σ37)) x68 σ26) (fun x33 σ34 =>
bindO False (vBuild [(.int .i64 0), (.int .i64 0), (.int .i64 0)] []) fun v69 =>
bindO False (vPut 3 (x33 2) 0 (.agg v69)) fun z70 =>
bindO False (resCons (vPart true 3 z70 0) (resCons (some (.bool false)) (some []))) fun vs => weakW σ (vResults vs) σ34 fun v σ => R (.ret v) σ)))))))

theorem fn53_eq (W : CallP) (a0 : PV) (σ : St) (R : Res → St → Prop) : bodyC (algP W) Tryz.prog annF 53 [a0] σ R = fn53 Tryz.prog W a0 σ R := by kernel_rfl

/-- environ/environref31.decimal -/
def fn54 (Pr : Program) (W : CallP) (a0 : PV) (σ : St) (R : Res → St → Prop) : Prop :=
CutW σ (fun J0 =>
packW [(0, a0), (4, (.int .u64 0)), (5, (.int .i64 0))] fun x41 =>
Lfp σ (fun Φ3 x4 σ5 =>
bindO False (vLen .str (x4 0) σ5) fun v6 =>
bindO False (vBin none .lss (x4 5) v6) fun v7 =>
condW v7 (
CutW σ (fun J8 =>
bindO False (vBin none .eql (x4 5) (.int .i64 0)) fun v11 =>
guardG False v11 true (fun J12 =>
bindO False (vStrAt (x4 0) (.int .i64 0)) fun v15 =>
bindO False (vBin none .eql v15 (.int .u8 45)) fun v16 =>
J12 (lookE [(16, (.v (x4 0))), (17, (.v v15)), (18, (.v v16))]) σ5) σ5 (fun y13 σ14 =>
bindO False (vPick v11 (y13 18).pv (.bool false)) fun v17 =>
condW v17 (
packW [(0, (x4 0)), (4, (x4 4)), (5, (x4 5))] fun x18 => J8 x18 σ14) (
bindO False (vStrAt (x4 0) (x4 5)) fun v19 =>
bindO False (vBin none .lss v19 (.int .u8 48)) fun v20 =>
guardG False v20 false (fun J21 =>
bindO False (vStrAt (x4 0) (x4 5)) fun v24 =>
bindO False (vBin none .gtr v24 (.int .u8 57)) fun v25 =>
J21 (lookE [(25, (.v (x4 0))), (26, (.v (x4 5))), (27, (.v v24)), (28, (.v v25))]) σ14) σ14 (fun y22 σ23 =>
bindO False (vPick v20 (.bool true) (y22 28).pv) fun v26 =>
guardG False v26 false (fun J27 =>
bindO False (vBin none .gtr (x4 4) (.int .u64 922337203685477581)) fun v30 =>
J27 (lookE [(31, (.v (x4 4))), (32, (.v v30))]) σ23) σ23 (fun y28 σ29 =>
bindO False (vPick v26 (.bool true) (y28 32).pv) fun v31 =>
condW v31 (
weakW σ (.tuple [(.int .i64 0), (.bool false)]) σ29 fun v σ => R (.ret v) σ) (
bindO False (vBin none .mul (x4 4) (.int .u64 10)) fun v32 =>
bindO False (vStrAt (x4 0) (x4 5)) fun v33 =>
bindO False (vBin none .sub v33 (.int .u8 48)) fun v34 =>
bindO False (vConv .u64 v34) fun v35 =>
bindO False (vBin none .add v32 v35) fun v36 =>
packW [(0, (x4 0)), (4, v36), (5, (x4 5))] fun x37 => J8 x37 σ29)))))) (fun x9 σ10 =>
bindO False (vBin none .add (x9 5) (.int .i64 1)) fun v38 =>
packW [(0, (x9 0)), (4, (x9 4)), (5, v38)] fun x39 => Φ3 x39 σ10)) (
packW [(0, (x4 0)), (4, (x4 4))] fun x40 => J0 x40 σ5)) x41 σ) (fun x1 σ2 =>
bindO False (vConv .i64 (x1 4)) fun v42 =>
CutW σ (fun J43 =>
bindO False (vLen .str (x1 0) σ2) fun v46 =>
bindO False (vBin none .gtr v46 (.int .i64 0)) fun v47 =>
guardG False v47 true (fun J48 =>
bindO False (vStrAt (x1 0) (.int .i64 0)) fun v51 =>
bindO False (vBin none .eql v51 (.int .u8 45)) fun v52 =>
J48 (lookE [(48, (.v (x1 0))), (49, (.v v51)), (50, (.v v52))]) σ2) σ2 (fun y49 σ50 =>
bindO False (vPick v47 (y49 50).pv (.bool false)) fun v53 =>
condW v53 (
bindO False (vUn .neg v42) fun v54 =>
packW [(0, (x1 0)), (6, v54)] fun x55 => J43 x55 σ50) (
packW [(0, (x1 0)), (6, v42)] fun x56 => J43 x56 σ50))) (fun x44 σ45 =>
callB W 47 [(x44 6)] σ45 (fun v57 σ58 =>
bindO False (vBin none .eql v57 (x44 0)) fun v59 =>
weakW σ (.tuple [(x44 6), v59]) σ58 fun v σ => R (.ret v) σ) (fun e60 σ61 => R (.pan e60) σ61)))

theorem fn54_eq (W : CallP) (a0 : PV) (σ : St) (R : Res → St → Prop) : bodyC (algP W) Tryz.prog annF 54 [a0] σ R = fn54 Tryz.prog W a0 σ R := by kernel_rfl

end Go.Proofs.YtgghfcchanilpaaGreatDoor
