/- The bodies of some functions, as the abstract machine reads them (printed by wip/tools/Pr.lean), each held against the program's form by the kernel. -/
import Derived.Test.YtiniifbmeobmgaaGreatDoorAnn
import Derived.Test.YtiniifbmeobmgaaGreatDoorProg
import Derived.KernelRfl
set_option linter.unusedVariables false
namespace Go.Proofs.YtiniifbmeobmgaaGreatDoor
open Go Go.Abs

/-- (*environ/hyper.reader).grammar -/
def fn77 (Pr : Program) (W : CallP) (a0 : PV) (σ : St) (R : Res → St → Prop) : Prop :=
callB W 136 [a0] σ (fun v0 σ1 =>
Lfp σ (fun Φ2 x3 σ4 =>
bindO False (vNil (x3 0)) fun v5 =>
bindO False (vField 5 v5) fun v6 =>
bindO False (vLoad false 1 v6 σ4) fun v7 =>
bindO False (vUn .not v7) fun v8 =>
condW v8 (
callB W 137 [(x3 0), (.bool true)] σ4 (fun v9 σ10 =>
bindO False (vNil (x3 0)) fun v11 =>
bindO False (vField 4 v11) fun v12 =>
bindO False (vLoad false 1 v12 σ10) fun v13 =>
bindO False (vBin none .eql v13 (.str [58, 58])) fun v14 =>
guardG False v14 true (fun J15 =>
bindO False (vPart false 1 (x3 3) 1) fun v18 =>
bindO False (vLen .sl v18 σ10) fun v19 =>
bindO False (vBin none .eql v19 (.int .i64 0)) fun v20 =>
J15 (lookE [(25, (.loc 3 1)), (26, (.v v18)), (27, (.v v19)), (28, (.v v20))]) σ10) σ10 (fun y16 σ17 =>
bindO False (vPick v14 (y16 28).pv (.bool false)) fun v21 =>
guardG False v21 true (fun J22 =>
bindO False (vLen .sl v9 σ17) fun v25 =>
bindO False (vBin none .eql v25 (.int .i64 1)) fun v26 =>
J22 (lookE [(31, (.v v9)), (32, (.v v25)), (33, (.v v26))]) σ17) σ17 (fun y23 σ24 =>
bindO False (vPick v21 (y23 33).pv (.bool false)) fun v27 =>
guardG False v27 true (fun J28 =>
bindO False (vIndex 2 v9 (.int .i64 0)) fun v31 =>
bindO False (vField 1 v31) fun v32 =>
bindO False (vLoad false 1 v32 σ24) fun v33 =>
callB W 57 [v33] σ24 (fun v34 σ35 =>
J28 (lookE [(36, (.v v9)), (37, (.v v31)), (38, (.v v32)), (39, (.v v33)), (40, (.v v34))]) σ35) (fun e36 σ37 => R (.pan e36) σ37)) σ24 (fun y29 σ30 =>
bindO False (vPick v27 (y29 40).pv (.bool false)) fun v38 =>
condW v38 (
bindO False (vPart false 1 (x3 3) 0) fun v39 =>
bindO False (vIndex 2 v9 (.int .i64 0)) fun v40 =>
bindO False (vField 1 v40) fun v41 =>
bindO False (vLoad false 1 v41 σ30) fun v42 =>
callB W 138 [(x3 0), v42] σ30 (fun v43 σ44 =>
bindO False (vBuildSl 2 (List.replicate 1 (.agg [(.str []), (.list .nil [])])) [(0, v43)]) fun v45 =>
bindS (vAppend 2 40 v39 (.list .full v45) σ44) fun v46 σ47 =>
bindO False (vPut 1 (x3 3) 0 v46) fun z48 =>
bindO False (vNil (x3 0)) fun v49 =>
bindO False (vField 4 v49) fun v50 =>
bindO False (vLoad false 1 v50 σ47) fun v51 =>
bindO False (vBin none .neq v51 (.str [46])) fun v52 =>
condW v52 (
callB W 140 [(x3 0)] σ47 (fun v53 σ54 =>
callB W 136 [(x3 0)] σ54 (fun v55 σ56 =>
Φ2 (lookP [(0, (x3 0)), (2, (x3 2)), (3, z48)]) σ56) (fun e57 σ58 => R (.pan e57) σ58)) (fun e59 σ60 => R (.pan e59) σ60)) (
callB W 136 [(x3 0)] σ47 (fun v61 σ62 =>
Φ2 (lookP [(0, (x3 0)), (2, (x3 2)), (3, z48)]) σ62) (fun e63 σ64 => R (.pan e63) σ64))) (fun e65 σ66 => R (.pan e65) σ66)) (
bindO False (vNil (x3 0)) fun v67 =>
bindO False (vField 4 v67) fun v68 =>
bindO False (vLoad false 1 v68 σ30) fun v69 =>
bindO False (vBin none .eql v69 (.str [58])) fun v70 =>
guardG False v70 true (fun J71 =>
bindO False (vLen .sl v9 σ30) fun v74 =>
bindO False (vBin none .gtr v74 (.int .i64 0)) fun v75 =>
J71 (lookE [(60, (.v v9)), (61, (.v v74)), (62, (.v v75))]) σ30) σ30 (fun y72 σ73 =>
bindO False (vPick v70 (y72 62).pv (.bool false)) fun v76 =>
condW v76 (
bindO False (vPart false 1 (x3 3) 1) fun v77 =>
callB W 139 [(x3 0), v9] σ73 (fun v78 σ79 =>
bindS (vAppend 2 48 v77 v78 σ79) fun v80 σ81 =>
bindO False (vPut 1 (x3 3) 1 v80) fun z82 =>
bindO False (vNil (x3 0)) fun v83 =>
bindO False (vField 4 v83) fun v84 =>
bindO False (vLoad false 1 v84 σ81) fun v85 =>
bindO False (vBin none .neq v85 (.str [46])) fun v86 =>
condW v86 (
callB W 140 [(x3 0)] σ81 (fun v87 σ88 =>
callB W 136 [(x3 0)] σ88 (fun v89 σ90 =>
Φ2 (lookP [(0, (x3 0)), (2, (x3 2)), (3, z82)]) σ90) (fun e91 σ92 => R (.pan e91) σ92)) (fun e93 σ94 => R (.pan e93) σ94)) (
callB W 136 [(x3 0)] σ81 (fun v95 σ96 =>
Φ2 (lookP [(0, (x3 0)), (2, (x3 2)), (3, z82)]) σ96) (fun e97 σ98 => R (.pan e97) σ98))) (fun e99 σ100 => R (.pan e99) σ100)) (
callB W 140 [(x3 0)] σ73 (fun v101 σ102 =>
bindO False (vNil (x3 0)) fun v103 =>
bindO False (vField 4 v103) fun v104 =>
bindO False (vLoad false 1 v104 σ102) fun v105 =>
bindO False (vBin none .neq v105 (.str [46])) fun v106 =>
condW v106 (
callB W 140 [(x3 0)] σ102 (fun v107 σ108 =>
callB W 136 [(x3 0)] σ108 (fun v109 σ110 =>
Φ2 (lookP [(0, (x3 0)), (2, (x3 2)), (3, (x3 3))]) σ110) (fun e111 σ112 => R (.pan e111) σ112)) (fun e113 σ114 => R (.pan e113) σ114)) (
callB W 136 [(x3 0)] σ102 (fun v115 σ116 =>
Φ2 (lookP [(0, (x3 0)), (2, (x3 2)), (3, (x3 3))]) σ116) (fun e117 σ118 => R (.pan e117) σ118))) (fun e119 σ120 => R (.pan e119) σ120)))))))) (fun e121 σ122 => R (.pan e121) σ122)) (
bindO False (vPart true 2 (x3 3) 0) fun v123 =>
bindO False (vPut 2 (x3 2) 0 v123) fun z124 =>
bindO False (resCons (vPart true 2 z124 0) (some [])) fun vs => weakW σ (vResults vs) σ4 fun v σ => R (.ret v) σ)) (lookP [(0, a0), (2, (.agg [(.list .nil []), (.list .nil [])])), (3, (.agg [(.list .nil []), (.list .nil [])]))]) σ1) (fun e125 σ126 => R (.pan e125) σ126)

theorem fn77_eq (W : CallP) (a0 : PV) (σ : St) (R : Res → St → Prop) : bodyC (algP W) Tryz.prog annF 77 [a0] σ R = fn77 Tryz.prog W a0 σ R := by kernel_rfl

/-- environ/hyper.Read -/
def fn20 (Pr : Program) (W : CallP) (a0 : PV) (σ : St) (R : Res → St → Prop) : Prop :=
newW 2 (.agg [(.list .nil []), (.list .nil [])]) σ fun p0 σ1 =>
newW 2 (.agg [(.int .i64 0), (.int .i64 0)]) σ1 fun p2 σ3 =>
bindO False (vLen .str a0 σ3) fun v4 =>
bindO False (vBin none .gtr v4 (.int .i64 65536)) fun v5 =>
condW v5 (
bindO False (vBuild [(.list .nil []), (.list .nil [])] []) fun v6 =>
bindO False (vBuild [(.int .i64 0), (.int .i64 0)] [(1, 1, (.int .i64 3))]) fun v7 =>
bindO False (vStore 2 p0 (.agg v6) σ3) fun σ8 =>
bindO False (vStore 2 p2 (.agg v7) σ8) fun σ9 =>
bindO False (resCons (vLoad true 2 p0 σ9) (resCons (vLoad true 2 p2 σ9) (some []))) fun vs => weakW σ (vResults vs) σ9 fun v σ => R (.ret v) σ) (
bindO False (vBuild [(.str []), (.int .i64 0), (.int .i64 0), (.int .i64 0), (.str []), (.bool false)] [(0, 1, a0)]) fun v10 =>
bindO False (opC.vBoxAny (.agg v10)) fun z11 =>
if 0 < z11.1 then newW z11.1 z11.2 σ3 fun p12 σ13 =>
callB W 77 [p12] σ13 (fun v14 σ15 =>
bindO False (vStore 2 p0 v14 σ15) fun σ16 =>
bindO False (vLoad true 2 p0 σ16) fun v17 =>
callB W 15 [v17] σ16 (fun v18 σ19 =>
bindO False (vBin none .neq v18 (.int .i64 0)) fun v20 =>
condW v20 (
bindO False (vBuild [(.list .nil []), (.list .nil [])] []) fun v21 =>
bindO False (vBuild [(.int .i64 0), (.int .i64 0)] [(1, 1, v18)]) fun v22 =>
bindO False (vStore 2 p0 (.agg v21) σ19) fun σ23 =>
bindO False (vStore 2 p2 (.agg v22) σ23) fun σ24 =>
bindO False (vBin (some .ifc) .neq .nilIface .nilIface) fun v25 =>
condW v25 (
bindO False (vAssert 41 (.agg [(.int .i64 0), (.int .i64 0)]) true .nilIface) fun v26 =>
bindO False (vExtract v26 0) fun v27 =>
bindO False (vExtract v26 1) fun v28 =>
bindO False (vPut 2 (.agg [(.int .i64 0), (.int .i64 0)]) 0 v27) fun z29 =>
bindO False (vUn .not v28) fun v30 =>
condW v30 (
panW .nilIface fun v31 => R (.pan v31) σ24) (
bindO False (vBuild [(.list .nil []), (.list .nil [])] []) fun v32 =>
bindO False (vPart true 2 z29 0) fun v33 =>
bindO False (vStore 2 p0 (.agg v32) σ24) fun σ34 =>
bindO False (vStore 2 p2 v33 σ34) fun σ35 =>
bindO False (resCons (vLoad true 2 p0 σ35) (resCons (vLoad true 2 p2 σ35) (some []))) fun vs => weakW σ (vResults vs) σ35 fun v σ => R (.ret v) σ)) (
bindO False (resCons (vLoad true 2 p0 σ24) (resCons (vLoad true 2 p2 σ24) (some []))) fun vs => weakW σ (vResults vs) σ24 fun v σ => R (.ret v) σ)) (
bindO False (vLoad true 2 p0 σ19) fun v36 =>
bindO False (vBuild [(.int .i64 0), (.int .i64 0)] []) fun v37 =>
bindO False (vStore 2 p0 v36 σ19) fun σ38 =>
bindO False (vStore 2 p2 (.agg v37) σ38) fun σ39 =>
bindO False (vBin (some .ifc) .neq .nilIface .nilIface) fun v40 =>
condW v40 (
bindO False (vAssert 41 (.agg [(.int .i64 0), (.int .i64 0)]) true .nilIface) fun v41 =>
bindO False (vExtract v41 0) fun v42 =>
bindO False (vExtract v41 1) fun v43 =>
bindO False (vPut 2 (.agg [(.int .i64 0), (.int .i64 0)]) 0 v42) fun z44 =>
bindO False (vUn .not v43) fun v45 =>
condW v45 (
panW .nilIface fun v46 => R (.pan v46) σ39) (
bindO False (vBuild [(.list .nil []), (.list .nil [])] []) fun v47 =>
bindO False (vPart true 2 z44 0) fun v48 =>
bindO False (vStore 2 p0 (.agg v47) σ39) fun σ49 =>
bindO False (vStore 2 p2 v48 σ49) fun σ50 =>
bindO False (resCons (vLoad true 2 p0 σ50) (resCons (vLoad true 2 p2 σ50) (some []))) fun vs => weakW σ (vResults vs) σ50 fun v σ => R (.ret v) σ)) (
bindO False (resCons (vLoad true 2 p0 σ39) (resCons (vLoad true 2 p2 σ39) (some []))) fun vs => weakW σ (vResults vs) σ39 fun v σ => R (.ret v) σ))) (fun e51 σ52 => bindO False (vBin (some .ifc) .neq e51 .nilIface) fun v53 =>
condW v53 (
bindO False (vAssert 41 (.agg [(.int .i64 0), (.int .i64 0)]) true e51) fun v54 =>
bindO False (vExtract v54 0) fun v55 =>
bindO False (vExtract v54 1) fun v56 =>
bindO False (vPut 2 (.agg [(.int .i64 0), (.int .i64 0)]) 0 v55) fun z57 =>
bindO False (vUn .not v56) fun v58 =>
condW v58 (
panW e51 fun v59 => False) (
bindO False (vBuild [(.list .nil []), (.list .nil [])] []) fun v60 =>
bindO False (vPart true 2 z57 0) fun v61 =>
bindO False (vStore 2 p0 (.agg v60) σ52) fun σ62 =>
bindO False (vStore 2 p2 v61 σ62) fun σ63 =>
bindO False (resCons (vLoad true 2 p0 σ63) (resCons (vLoad true 2 p2 σ63) (some []))) fun vs => weakW σ (vResults vs) σ63 fun v σ => R (.ret v) σ)) (
bindO False (resCons (vLoad true 2 p0 σ52) (resCons (vLoad true 2 p2 σ52) (some []))) fun vs => weakW σ (vResults vs) σ52 fun v σ => R (.ret v) σ))) (fun e64 σ65 => bindO False (vBin (some .ifc) .neq e64 .nilIface) fun v66 =>
condW v66 (
bindO False (vAssert 41 (.agg [(.int .i64 0), (.int .i64 0)]) true e64) fun v67 =>
bindO False (vExtract v67 0) fun v68 =>
bindO False (vExtract v67 1) fun v69 =>
bindO False (vPut 2 (.agg [(.int .i64 0), (.int .i64 0)]) 0 v68) fun z70 =>
bindO False (vUn .not v69) fun v71 =>
condW v71 (
panW e64 fun v72 => False) (
bindO False (vBuild [(.list .nil []), (.list .nil [])] []) fun v73 =>
bindO False (vPart true 2 z70 0) fun v74 =>
bindO False (vStore 2 p0 (.agg v73) σ65) fun σ75 =>
bindO False (vStore 2 p2 v74 σ75) fun σ76 =>
bindO False (resCons (vLoad true 2 p0 σ76) (resCons (vLoad true 2 p2 σ76) (some []))) fun vs => weakW σ (vResults vs) σ76 fun v σ => R (.ret v) σ)) (
bindO False (resCons (vLoad true 2 p0 σ65) (resCons (vLoad true 2 p2 σ65) (some []))) fun vs => weakW σ (vResults vs) σ65 fun v σ => R (.ret v) σ)) else False)

theorem fn20_eq (W : CallP) (a0 : PV) (σ : St) (R : Res → St → Prop) : bodyC (algP W) Tryz.prog annF 20 [a0] σ R = fn20 Tryz.prog W a0 σ R := by kernel_rfl

end Go.Proofs.YtiniifbmeobmgaaGreatDoor
