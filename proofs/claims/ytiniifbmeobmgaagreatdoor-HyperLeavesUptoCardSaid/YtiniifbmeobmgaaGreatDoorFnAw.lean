/- The bodies of some functions, as the abstract machine reads them (printed by wip/tools/Pr.lean), each held against the program's form by the kernel. -/
import Derived.KernelRfl
import Derived.Test.YtiniifbmeobmgaaGreatDoorAnn
import Derived.Test.YtiniifbmeobmgaaGreatDoorProg
set_option linter.unusedVariables false
namespace Go.Proofs.YtiniifbmeobmgaaGreatDoor
open Go Go.Abs

/-- environ/environlaw19.awake -/
def fn13 (Pr : Program) (W : CallP) (σ : St) (R : Res → St → Prop) : Prop :=
callB W 20 [(.str [78, 32, 58, 58, 32, 69, 77, 80, 84, 89, 32, 59, 32, 78, 32, 105, 32, 46, 32, 97, 98, 99, 32, 58, 32, 78, 32, 97, 32, 108, 105, 115, 116, 44, 32, 78, 32, 98, 32, 108, 105, 115, 116, 44, 32, 78, 32, 99, 32, 108, 105, 115, 116, 32, 46, 32, 78, 32, 105, 32, 97, 32, 108, 105, 115, 116, 32, 58, 32, 108, 101, 116, 116, 101, 114, 32, 97, 32, 115, 121, 109, 98, 111, 108, 44, 32, 78, 32, 97, 32, 108, 105, 115, 116, 32, 46, 32, 78, 32, 105, 32, 98, 32, 108, 105, 115, 116, 32, 58, 32, 108, 101, 116, 116, 101, 114, 32, 98, 32, 115, 121, 109, 98, 111, 108, 44, 32, 78, 32, 98, 32, 108, 105, 115, 116, 32, 46, 32, 78, 32, 105, 32, 99, 32, 108, 105, 115, 116, 32, 58, 32, 108, 101, 116, 116, 101, 114, 32, 99, 32, 115, 121, 109, 98, 111, 108, 44, 32, 78, 32, 99, 32, 108, 105, 115, 116, 32, 46, 32, 97, 32, 108, 105, 115, 116, 32, 58, 32, 69, 77, 80, 84, 89, 32, 46, 32, 98, 32, 108, 105, 115, 116, 32, 58, 32, 69, 77, 80, 84, 89, 32, 46, 32, 99, 32, 108, 105, 115, 116, 32, 58, 32, 69, 77, 80, 84, 89, 32, 46])] σ (fun v0 σ1 =>
bindO False (vExtract v0 0) fun v2 =>
bindO False (vExtract v0 1) fun v3 =>
bindO False (vPut 2 (.agg [(.list .nil []), (.list .nil [])]) 0 v2) fun z4 =>
bindO False (vPut 2 (.agg [(.int .i64 0), (.int .i64 0)]) 0 v3) fun z5 =>
bindO False (vPart true 2 z4 0) fun v6 =>
callB W 18 [v6, (.str [78]), (.str [105, 32, 105])] σ1 (fun v7 σ8 =>
bindO False (vExtract v7 0) fun v9 =>
bindO False (vExtract v7 1) fun v10 =>
bindO False (vPart true 2 z4 0) fun v11 =>
callB W 18 [v11, (.str [78]), (.str [97])] σ8 (fun v12 σ13 =>
bindO False (vExtract v12 0) fun v14 =>
bindO False (vExtract v12 1) fun v15 =>
bindO False (vPart true 2 z4 0) fun v16 =>
bindO False (vBuild [(.bool false), (.str [])] [(0, 1, (.bool true)), (1, 1, (.str [78]))]) fun v17 =>
bindO False (vBuild [(.bool false), (.str [])] [(1, 1, (.str [105]))]) fun v18 =>
bindO False (vBuild [(.bool false), (.str [])] [(0, 1, (.bool true)), (1, 1, (.str [78, 49]))]) fun v19 =>
bindO False (vBuildSl 2 (List.replicate 3 (.agg [(.bool false), (.str [])])) [(0, (.agg v17)), (1, (.agg v18)), (2, (.agg v19))]) fun v20 =>
callB W 23 [v16, (.list .full v20), (.str [105, 32, 105]), (.int .i64 5)] σ13 (fun v21 σ22 =>
bindO False (vExtract v21 0) fun v23 =>
bindO False (vExtract v21 1) fun v24 =>
bindO False (vPart true 2 z5 0) fun v25 =>
bindO False (vBuild [(.int .i64 0), (.int .i64 0)] []) fun v26 =>
bindO False (vBin (some (.st [.int, .int])) .eql v25 (.agg v26)) fun v27 =>
guardG False v27 true (fun J28 =>
bindO False (vPart false 1 z4 1) fun v31 =>
bindO False (vLen .sl v31 σ22) fun v32 =>
bindO False (vBin none .eql v32 (.int .i64 7)) fun v33 =>
J28 (lookE [(36, (.loc 1 1)), (37, (.v v31)), (38, (.v v32)), (39, (.v v33))]) σ22) σ22 (fun y29 σ30 =>
bindO False (vPick v27 (y29 39).pv (.bool false)) fun v34 =>
guardG False v34 true (fun J35 =>
J35 (lookE [(42, (.v v9))]) σ30) σ30 (fun y36 σ37 =>
bindO False (vPick v34 (y36 42).pv (.bool false)) fun v38 =>
guardG False v38 true (fun J39 =>
bindO False (vUn .not v14) fun v42 =>
J39 (lookE [(45, (.v v14)), (46, (.v v42))]) σ37) σ37 (fun y40 σ41 =>
bindO False (vPick v38 (y40 46).pv (.bool false)) fun v43 =>
guardG False v43 true (fun J44 =>
bindO False (vLen .sl v23 σ41) fun v47 =>
bindO False (vBin none .eql v47 (.int .i64 2)) fun v48 =>
J44 (lookE [(49, (.v v23)), (50, (.v v47)), (51, (.v v48))]) σ41) σ41 (fun y45 σ46 =>
bindO False (vPick v43 (y45 51).pv (.bool false)) fun v49 =>
guardG False v49 true (fun J50 =>
bindO False (vBin none .add v10 v15) fun v53 =>
bindO False (vBin none .add v53 v24) fun v54 =>
bindO False (vBin none .eql v54 (.int .i64 0)) fun v55 =>
J50 (lookE [(54, (.v v10)), (55, (.v v15)), (56, (.v v53)), (57, (.v v24)), (58, (.v v54)), (59, (.v v55))]) σ46) σ46 (fun y51 σ52 =>
bindO False (vPick v49 (y51 59).pv (.bool false)) fun v56 =>
guardG False v56 true (fun J57 =>
bindO False (vIndex 1 v23 (.int .i64 1)) fun v60 =>
bindO False (vLoad false 1 v60 σ52) fun v61 =>
bindO False (vBuild [(.str []), (.str [])] [(0, 1, (.str [78])), (1, 1, (.str [105]))]) fun v62 =>
bindO False (vBuild [(.str []), (.str [])] [(0, 1, (.str [78, 49]))]) fun v63 =>
bindO False (vBuildSl 2 (List.replicate 2 (.agg [(.str []), (.str [])])) [(0, (.agg v62)), (1, (.agg v63))]) fun v64 =>
callB W 48 [v61, (.list .full v64)] σ52 (fun v65 σ66 =>
J57 (lookE [(62, (.v v23)), (63, (.v v60)), (64, (.v v61)), (65, (.v (.agg v62))), (66, (.v (.agg v63))), (67, (.v (.list .full v64))), (68, (.v v65))]) σ66) (fun e67 σ68 => R (.pan e67) σ68)) σ52 (fun y58 σ59 =>
bindO False (vPick v56 (y58 68).pv (.bool false)) fun v69 =>
weakW σ v69 σ59 fun v σ => R (.ret v) σ))))))) (fun e70 σ71 => R (.pan e70) σ71)) (fun e72 σ73 => R (.pan e72) σ73)) (fun e74 σ75 => R (.pan e74) σ75)) (fun e76 σ77 => R (.pan e76) σ77)

theorem fn13_eq (W : CallP) (σ : St) (R : Res → St → Prop) : bodyC (algP W) Tryz.prog annF 13 [] σ R = fn13 Tryz.prog W  σ R := by kernel_rfl

/-- slices.Equal[[]environ/hyper.Bind,environ/hyper.Bind] -/
def fn48 (Pr : Program) (W : CallP) (a0 a1 : PV) (σ : St) (R : Res → St → Prop) : Prop :=
bindO False (vLen .sl a0 σ) fun v0 =>
bindO False (vLen .sl a1 σ) fun v1 =>
bindO False (vBin none .neq v0 v1) fun v2 =>
condW v2 (
weakW σ (.bool false) σ fun v σ => R (.ret v) σ) (
bindO False (vLen .sl a0 σ) fun v3 =>
Lfp σ (fun Φ4 x5 σ6 =>
bindO False (vBin none .lss (x5 13) (x5 12)) fun v7 =>
condW v7 (
bindO False (vIndex 2 (x5 0) (x5 13)) fun v8 =>
bindO False (vLoad true 2 v8 σ6) fun v9 =>
bindO False (vIndex 2 (x5 1) (x5 13)) fun v10 =>
bindO False (vLoad true 2 v10 σ6) fun v11 =>
bindO False (vBin (some (.st [.str, .str])) .neq v9 v11) fun v12 =>
condW v12 (
weakW σ (.bool false) σ6 fun v σ => R (.ret v) σ) (
bindO False (vBin none .add (x5 13) (.int .i64 1)) fun v13 =>
Φ4 (lookP [(0, (x5 0)), (1, (x5 1)), (12, (x5 12)), (13, v13)]) σ6)) (
weakW σ (.bool true) σ6 fun v σ => R (.ret v) σ)) (lookP [(0, a0), (1, a1), (12, v3), (13, (.int .i64 0))]) σ)

theorem fn48_eq (W : CallP) (a0 a1 : PV) (σ : St) (R : Res → St → Prop) : bodyC (algP W) Tryz.prog annF 48 [a0, a1] σ R = fn48 Tryz.prog W a0 a1 σ R := by kernel_rfl

end Go.Proofs.YtiniifbmeobmgaaGreatDoor
