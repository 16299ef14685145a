/- The bodies of some functions, as the abstract machine reads them (printed by wip/tools/Pr.lean), each held against the program's form by the kernel. -/
import Derived.Test.YtiniifbmeobmgaaGreatDoorAnn
import Derived.Test.YtiniifbmeobmgaaGreatDoorProg
import Derived.KernelRfl
set_option linter.unusedVariables false
namespace Go.Proofs.YtiniifbmeobmgaaGreatDoor
open Go Go.Abs

/-- environ/environlaw19.HyperWrites -/
def fn8 (Pr : Program) (W : CallP) (a0 : PV) (σ : St) (R : Res → St → Prop) : Prop :=
bindO False (opC.vBoxAny a0) fun z0 =>
callB W 13 [] σ (fun v1 σ2 =>
bindO False (vUn .not v1) fun v3 =>
condW v3 (
weakW σ (.bool false) σ2 fun v σ => R (.ret v) σ) (
bindO False (vPart true 2 z0.2 0) fun v4 =>
callB W 14 [v4] σ2 (fun v5 σ6 =>
bindO False (vUn .not v5) fun v7 =>
condW v7 (
weakW σ (.bool true) σ6 fun v σ => R (.ret v) σ) (
bindO False (vPart true 2 z0.2 0) fun v8 =>
callB W 32 [v8] σ6 (fun v9 σ10 =>
bindO False (vExtract v9 0) fun v11 =>
bindO False (vExtract v9 1) fun v12 =>
bindO False (vPart true 2 z0.2 0) fun v13 =>
callB W 17 [v13] σ10 (fun v14 σ15 =>
callB W 33 [v14] σ15 (fun v16 σ17 =>
bindO False (vExtract v16 0) fun v18 =>
bindO False (vExtract v16 1) fun v19 =>
bindO False (vBin none .eql v11 v18) fun v20 =>
guardG False v20 true (fun J21 =>
bindO False (vBin none .eql v12 v19) fun v24 =>
J21 (lookE [(27, (.v v12)), (28, (.v v19)), (29, (.v v24))]) σ17) σ17 (fun y22 σ23 =>
bindO False (vPick v20 (y22 29).pv (.bool false)) fun v25 =>
weakW σ v25 σ23 fun v σ => R (.ret v) σ)) (fun e26 σ27 => R (.pan e26) σ27)) (fun e28 σ29 => R (.pan e28) σ29)) (fun e30 σ31 => R (.pan e30) σ31))) (fun e32 σ33 => R (.pan e32) σ33))) (fun e34 σ35 => R (.pan e34) σ35)

theorem fn8_eq (W : CallP) (a0 : PV) (σ : St) (R : Res → St → Prop) : bodyC (algP W) Tryz.prog annF 8 [a0] σ R = fn8 Tryz.prog W a0 σ R := by kernel_rfl

/-- environ/environlaw19.HyperBack -/
def fn9 (Pr : Program) (W : CallP) (a0 : PV) (σ : St) (R : Res → St → Prop) : Prop :=
bindO False (opC.vBoxAny a0) fun z0 =>
callB W 13 [] σ (fun v1 σ2 =>
bindO False (vUn .not v1) fun v3 =>
condW v3 (
weakW σ (.bool false) σ2 fun v σ => R (.ret v) σ) (
bindO False (vPart true 2 z0.2 0) fun v4 =>
callB W 14 [v4] σ2 (fun v5 σ6 =>
bindO False (vUn .not v5) fun v7 =>
condW v7 (
weakW σ (.bool true) σ6 fun v σ => R (.ret v) σ) (
bindO False (vPart true 2 z0.2 0) fun v8 =>
callB W 32 [v8] σ6 (fun v9 σ10 =>
bindO False (vExtract v9 0) fun v11 =>
bindO False (vExtract v9 1) fun v12 =>
bindO False (vBin none .neq v12 (.int .i64 0)) fun v13 =>
condW v13 (
bindO False (vBin none .eql v11 (.str [])) fun v14 =>
guardG False v14 true (fun J15 =>
bindO False (vPart true 2 z0.2 0) fun v18 =>
callB W 15 [v18] σ10 (fun v19 σ20 =>
bindO False (vBin none .eql v12 v19) fun v21 =>
J15 (lookE [(24, (.v v12)), (25, (.v v18)), (26, (.v v19)), (27, (.v v21))]) σ20) (fun e22 σ23 => R (.pan e22) σ23)) σ10 (fun y16 σ17 =>
bindO False (vPick v14 (y16 27).pv (.bool false)) fun v24 =>
weakW σ v24 σ17 fun v σ => R (.ret v) σ)) (
callB W 20 [v11] σ10 (fun v25 σ26 =>
bindO False (vExtract v25 0) fun v27 =>
bindO False (vExtract v25 1) fun v28 =>
bindO False (vPut 2 (.agg [(.list .nil []), (.list .nil [])]) 0 v27) fun z29 =>
bindO False (vPut 2 (.agg [(.int .i64 0), (.int .i64 0)]) 0 v28) fun z30 =>
bindO False (vPart true 2 z29 0) fun v31 =>
callB W 32 [v31] σ26 (fun v32 σ33 =>
bindO False (vExtract v32 0) fun v34 =>
bindO False (vExtract v32 1) fun v35 =>
bindO False (vPart true 2 z30 0) fun v36 =>
bindO False (vBuild [(.int .i64 0), (.int .i64 0)] []) fun v37 =>
bindO False (vBin (some (.st [.int, .int])) .eql v36 (.agg v37)) fun v38 =>
guardG False v38 true (fun J39 =>
bindO False (vBin none .eql v35 (.int .i64 0)) fun v42 =>
J39 (lookE [(43, (.v v35)), (44, (.v v42))]) σ33) σ33 (fun y40 σ41 =>
bindO False (vPick v38 (y40 44).pv (.bool false)) fun v43 =>
guardG False v43 true (fun J44 =>
bindO False (vBin none .eql v11 v34) fun v47 =>
J44 (lookE [(47, (.v v11)), (48, (.v v34)), (49, (.v v47))]) σ41) σ41 (fun y45 σ46 =>
bindO False (vPick v43 (y45 49).pv (.bool false)) fun v48 =>
guardG False v48 true (fun J49 =>
bindO False (vPart true 2 z29 0) fun v52 =>
bindO False (vPart true 2 z0.2 0) fun v53 =>
callB W 17 [v53] σ46 (fun v54 σ55 =>
callB W 22 [v52, v54] σ55 (fun v56 σ57 =>
J49 (lookE [(52, (.v v52)), (53, (.v v53)), (54, (.v v54)), (55, (.v v56))]) σ57) (fun e58 σ59 => R (.pan e58) σ59)) (fun e60 σ61 => R (.pan e60) σ61)) σ46 (fun y50 σ51 =>
bindO False (vPick v48 (y50 55).pv (.bool false)) fun v62 =>
guardG False v62 true (fun J63 =>
bindO False (vPart true 2 z29 0) fun v66 =>
callB W 15 [v66] σ51 (fun v67 σ68 =>
bindO False (vBin none .eql v67 (.int .i64 0)) fun v69 =>
J63 (lookE [(58, (.v v66)), (59, (.v v67)), (60, (.v v69))]) σ68) (fun e70 σ71 => R (.pan e70) σ71)) σ51 (fun y64 σ65 =>
bindO False (vPick v62 (y64 60).pv (.bool false)) fun v72 =>
weakW σ v72 σ65 fun v σ => R (.ret v) σ))))) (fun e73 σ74 => R (.pan e73) σ74)) (fun e75 σ76 => R (.pan e75) σ76))) (fun e77 σ78 => R (.pan e77) σ78))) (fun e79 σ80 => R (.pan e79) σ80))) (fun e81 σ82 => R (.pan e81) σ82)

theorem fn9_eq (W : CallP) (a0 : PV) (σ : St) (R : Res → St → Prop) : bodyC (algP W) Tryz.prog annF 9 [a0] σ R = fn9 Tryz.prog W a0 σ R := by kernel_rfl

end Go.Proofs.YtiniifbmeobmgaaGreatDoor
