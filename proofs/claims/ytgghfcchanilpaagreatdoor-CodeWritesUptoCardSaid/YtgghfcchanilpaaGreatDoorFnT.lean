import Derived.Test.YtgghfcchanilpaaGreatDoorTabL
import Derived.KernelRfl
import Derived.Test.YtgghfcchanilpaaGreatDoorAbsTabA
import Derived.Test.YtgghfcchanilpaaGreatDoorProg
set_option linter.unusedVariables false
set_option linter.unusedSimpArgs false
namespace Go.Proofs.YtgghfcchanilpaaGreatDoor
open Go Go.Abs
structure Ln where
 s : List UInt8
 p : Int
 l : List UInt8
 r : List UInt8
 q : List UInt8
 d : Int
 f : Int
 a : Int
 b : Int
def toLn (x : PV) : Option Ln :=
 match x with
 | .agg [.str s,.int .i64 p,.str l,.str r,.str q,.int .i64 d,.int .i64 f,.int .i64 a,.int .i64 b] => some ⟨s,p,l,r,q,d,f,a,b⟩
 | _ => none
def pvLn (x : Ln) : PV := .agg [.str x.s,.int .i64 x.p,.str x.l,.str x.r,.str x.q,.int .i64 x.d,.int .i64 x.f,.int .i64 x.a,.int .i64 x.b]
def lns : List Ln := (lines209 ++ lines210 ++ lines211).filterMap toLn
theorem lns_eq : lns.map pvLn = lines209 ++ lines210 ++ lines211 := by kernel_rfl
def Ln.ok (x : Ln) : Bool := x.s.all (fun c => decide (c.toNat < 128)) && (decide (x.s.length < 100) && (decide (0 ≤ x.a) && (decide (x.a ≤ x.b) && (decide (x.b < 3) && (decide (0 ≤ x.f) && decide (x.f < 500))))))
theorem lns_ok : lns.all Ln.ok = true := by kernel_rfl
def Ln.cnt (x : Ln) : Nat := (Go.Lib.fields x.s).length * (x.b - x.a + 1).toNat
theorem lns_cnt : (lns.map Ln.cnt).sum = 470 := by kernel_rfl
def Ln.fromTo (x : Ln) : List Int := (List.range (x.b - x.a + 1).toNat).map fun (i : Nat) => x.a + (i : Int)
def allModes : List (List UInt8 × Int) := (lns.flatMap fun x => [x.l,x.r,x.q].flatMap fun s => x.fromTo.map fun k => (s,k)).eraseDups
theorem modes_run : allModes.all (fun m => run214 m.1 m.2) = true := by kernel_rfl
theorem modes_all : lns.all (fun x => x.fromTo.all fun k => allModes.contains (x.l,k) && (allModes.contains (x.r,k) && allModes.contains (x.q,k))) = true := by kernel_rfl
end Go.Proofs.YtgghfcchanilpaaGreatDoor
namespace Go.Proofs.YtgghfcchanilpaaGreatDoor
open Go Go.Abs
def fn56 (Pr : Program) (W : CallP) (σ : St) (R : Res → St → Prop) : Prop :=
callB W 97 [] σ (fun v0 σ1 =>
oF (vLen .sl v0 σ1) fun v2 =>
packW [(1,(.list .nil [])),(7,v0),(8,v2),(9,(.int .i64 0))] fun x44 =>
Lfp σ (fun Φ3 x4 σ5 =>
oF (vBin none .lss (x4 9) (x4 8)) fun v6 =>
condW v6 (
oF (vIndex 9 (x4 7) (x4 9)) fun v7 =>
oF (vLoad true 9 v7 σ5) fun v8 =>
oF (vPut 9 (.agg [(.str []),(.int .i64 0),(.str []),(.str []),(.str []),(.int .i64 0),(.int .i64 0),(.int .i64 0),(.int .i64 0)]) 0 v8) fun z9 =>
oF (vPart false 1 z9 0) fun v10 =>
callB W 98 [v10] σ5 (fun v11 σ12 =>
oF (vLen .sl v11 σ12) fun v13 =>
packW [(1,(x4 1)),(7,(x4 7)),(8,(x4 8)),(9,(x4 9)),(15,v11),(16,v13),(17,(.int .i64 0)),(3,z9)] fun x41 =>
Lfp σ (fun Φ14 x15 σ16 =>
oF (vBin none .lss (x15 17) (x15 16)) fun v17 =>
condW v17 (
oF (vIndex 1 (x15 15) (x15 17)) fun v18 =>
oF (vLoad false 1 v18 σ16) fun v19 =>
oF (vPart false 1 (x15 3) 7) fun v20 =>
packW [(1,(x15 1)),(5,v19),(6,v20),(7,(x15 7)),(8,(x15 8)),(9,(x15 9)),(15,(x15 15)),(16,(x15 16)),(17,(x15 17)),(3,(x15 3))] fun x38 =>
Lfp σ (fun Φ21 x22 σ23 =>
oF (vPart false 1 (x22 3) 8) fun v24 =>
oF (vBin none .leq (x22 6) v24) fun v25 =>
condW v25 (
oF (vPart true 9 (x22 3) 0) fun v26 =>
callB W 99 [v26,(x22 5),(x22 6)] σ23 (fun v27 σ28 =>
oF (vBuildSl 7 (List.replicate 1 (.agg [(.str []),(.str []),(.str []),(.str []),(.int .i64 0),(.int .i64 0),(.int .i64 0)])) [(0,v27)]) fun v29 =>
bindS (vAppend 7 88 (x22 1) (.list .full v29) σ28) fun v30 σ31 =>
oF (vBin none .add (x22 6) (.int .i64 1)) fun v32 =>
packW [(1,v30),(5,(x22 5)),(6,v32),(7,(x22 7)),(8,(x22 8)),(9,(x22 9)),(15,(x22 15)),(16,(x22 16)),(17,(x22 17)),(3,(x22 3))] fun x33 => Φ21 x33 σ31) (pNR R)) (
oF (vBin none .add (x22 17) (.int .i64 1)) fun v36 =>
packW [(1,(x22 1)),(7,(x22 7)),(8,(x22 8)),(9,(x22 9)),(15,(x22 15)),(16,(x22 16)),(17,v36),(3,(x22 3))] fun x37 => Φ14 x37 σ23)) x38 σ16) (
oF (vBin none .add (x15 9) (.int .i64 1)) fun v39 =>
packW [(1,(x15 1)),(7,(x15 7)),(8,(x15 8)),(9,v39)] fun x40 => Φ3 x40 σ16)) x41 σ12) (pNR R)) (
wkR σ (x4 1) σ5 R)) x44 σ1) (pNR R)
theorem fn56_eq (W : CallP) (σ : St) (R : Res → St → Prop) : bodyC (algP W) Tryz.prog ann1 56 [] σ R = fn56 Tryz.prog W  σ R := by kernel_rfl
def fn68 (Pr : Program) (W : CallP) (σ : St) (R : Res → St → Prop) : Prop :=
CutW σ (fun J0 =>
callB W 127 [] σ (fun v3 σ4 =>
oF (vLen .sl v3 σ4) fun v5 =>
packW [(1,(.list .nil [])),(11,v3),(12,v5),(13,(.int .i64 0))] fun x80 =>
Lfp σ (fun Φ6 x7 σ8 =>
oF (vBin none .lss (x7 13) (x7 12)) fun v9 =>
condW v9 (
CutW σ (fun J10 =>
oF (vIndex 6 (x7 11) (x7 13)) fun v13 =>
oF (vLoad true 6 v13 σ8) fun v14 =>
oF (vPut 6 (.agg [(.str []),(.int .i64 0),(.str []),(.str []),(.str []),(.int .i64 0)]) 0 v14) fun z15 =>
oF (vLen .sl (x7 1) σ8) fun v16 =>
CutW σ (fun J17 =>
oF (vPart true 6 z15 0) fun v20 =>
callB W 128 [v20,(.str [76])] σ8 (fun v21 σ22 =>
condW v21 (
packW [(1,(x7 1)),(4,v16),(5,(.int .i64 3)),(6,(.int .i64 0)),(11,(x7 11)),(12,(x7 12)),(13,(x7 13)),(3,z15)] fun x23 => J17 x23 σ22) (
packW [(1,(x7 1)),(4,v16),(5,(.int .i64 1)),(6,(.int .i64 1)),(11,(x7 11)),(12,(x7 12)),(13,(x7 13)),(3,z15)] fun x24 => J17 x24 σ22)) (pNR R)) (fun x18 σ19 =>
CutW σ (fun J27 =>
oF (vPart true 6 (x18 3) 0) fun v30 =>
callB W 128 [v30,(.str [83])] σ19 (fun v31 σ32 =>
condW v31 (
packW [(1,(x18 1)),(4,(x18 4)),(5,(.int .i64 2)),(6,(.int .i64 0)),(11,(x18 11)),(12,(x18 12)),(13,(x18 13)),(3,(x18 3))] fun x33 => J27 x33 σ32) (
packW [(1,(x18 1)),(4,(x18 4)),(5,(x18 5)),(6,(x18 6)),(11,(x18 11)),(12,(x18 12)),(13,(x18 13)),(3,(x18 3))] fun x34 => J27 x34 σ32)) (pNR R)) (fun x28 σ29 =>
oF (vPart false 1 (x28 3) 0) fun v37 =>
callB W 48 [v37,(.str [32])] σ29 (fun v38 σ39 =>
oF (vLen .sl v38 σ39) fun v40 =>
packW [(1,(x28 1)),(4,(x28 4)),(5,(x28 5)),(6,(x28 6)),(11,(x28 11)),(12,(x28 12)),(13,(x28 13)),(25,v38),(26,v40),(27,(.int .i64 0)),(3,(x28 3))] fun x74 =>
Lfp σ (fun Φ41 x42 σ43 =>
oF (vBin none .lss (x42 27) (x42 26)) fun v44 =>
condW v44 (
CutW σ (fun J45 =>
oF (vIndex 1 (x42 25) (x42 27)) fun v48 =>
oF (vLoad false 1 v48 σ43) fun v49 =>
packW [(1,(x42 1)),(4,(x42 4)),(5,(x42 5)),(6,(x42 6)),(8,v49),(9,(.int .i64 0)),(11,(x42 11)),(12,(x42 12)),(13,(x42 13)),(25,(x42 25)),(26,(x42 26)),(27,(x42 27)),(3,(x42 3))] fun x70 =>
Lfp σ (fun Φ50 x51 σ52 =>
oF (vBin none .lss (x51 9) (x51 5)) fun v53 =>
condW v53 (
oF (vPart true 6 (x51 3) 0) fun v54 =>
oF (vBin none .add (x51 6) (x51 9)) fun v55 =>
callB W 129 [v54,(x51 8),v55] σ52 (fun v56 σ57 =>
oF (vPut 7 (.agg [(.str []),(.str []),(.str []),(.str []),(.int .i64 0),(.int .i64 0),(.int .i64 0)]) 0 v56) fun z58 =>
oF (vBin none .add (x51 4) (x51 9)) fun v59 =>
oF (vPut 1 z58 6 v59) fun z60 =>
oF (vPart true 7 z60 0) fun v61 =>
oF (vBuildSl 7 (List.replicate 1 (.agg [(.str []),(.str []),(.str []),(.str []),(.int .i64 0),(.int .i64 0),(.int .i64 0)])) [(0,v61)]) fun v62 =>
bindS (vAppend 7 88 (x51 1) (.list .full v62) σ57) fun v63 σ64 =>
oF (vBin none .add (x51 9) (.int .i64 1)) fun v65 =>
packW [(1,v63),(4,(x51 4)),(5,(x51 5)),(6,(x51 6)),(8,(x51 8)),(9,v65),(11,(x51 11)),(12,(x51 12)),(13,(x51 13)),(25,(x51 25)),(26,(x51 26)),(27,(x51 27)),(3,(x51 3))] fun x66 => Φ50 x66 σ64) (pNR R)) (
packW [(1,(x51 1)),(4,(x51 4)),(5,(x51 5)),(6,(x51 6)),(11,(x51 11)),(12,(x51 12)),(13,(x51 13)),(25,(x51 25)),(26,(x51 26)),(27,(x51 27)),(3,(x51 3))] fun x69 => J45 x69 σ52)) x70 σ43) (fun x46 σ47 =>
oF (vBin none .add (x46 27) (.int .i64 1)) fun v71 =>
packW [(1,(x46 1)),(4,(x46 4)),(5,(x46 5)),(6,(x46 6)),(11,(x46 11)),(12,(x46 12)),(13,(x46 13)),(25,(x46 25)),(26,(x46 26)),(27,v71),(3,(x46 3))] fun x72 => Φ41 x72 σ47)) (
packW [(1,(x42 1)),(11,(x42 11)),(12,(x42 12)),(13,(x42 13))] fun x73 => J10 x73 σ43)) x74 σ39) (pNR R)))) (fun x11 σ12 =>
oF (vBin none .add (x11 13) (.int .i64 1)) fun v77 =>
packW [(1,(x11 1)),(11,(x11 11)),(12,(x11 12)),(13,v77)] fun x78 => Φ6 x78 σ12)) (
packW [(1,(x7 1))] fun x79 => J0 x79 σ8)) x80 σ4) (pNR R)) (fun x1 σ2 =>
wkR σ (x1 1) σ2 R)
theorem fn68_eq (W : CallP) (σ : St) (R : Res → St → Prop) : bodyC (algP W) Tryz.prog ann1 68 [] σ R = fn68 Tryz.prog W  σ R := by kernel_rfl
def fn97 (Pr : Program) (W : CallP) (σ : St) (R : Res → St → Prop) : Prop :=
callB W 209 [] σ (fun v0 σ1 =>
callB W 210 [] σ1 (fun v2 σ3 =>
bindS (vAppend 9 104 v0 v2 σ3) fun v4 σ5 =>
callB W 211 [] σ5 (fun v6 σ7 =>
bindS (vAppend 9 104 v4 v6 σ7) fun v8 σ9 =>
wkR σ v8 σ9 R) (pNR R)) (pNR R)) (pNR R)
theorem fn97_eq (W : CallP) (σ : St) (R : Res → St → Prop) : bodyC (algP W) Tryz.prog ann1 97 [] σ R = fn97 Tryz.prog W  σ R := by kernel_rfl
def fn99 (Pr : Program) (W : CallP) (a0 a1 a2 : PV) (σ : St) (R : Res → St → Prop) : Prop :=
oF (opC.vBoxAny a0) fun z0 =>
oF (vPart true 9 z0.2 0) fun v1 =>
oF (vPart false 1 z0.2 2) fun v2 =>
oF (vPart true 9 z0.2 0) fun v3 =>
oF (vPart false 1 z0.2 3) fun v4 =>
oF (vPart true 9 z0.2 0) fun v5 =>
oF (vPart false 1 z0.2 4) fun v6 =>
oF (vPart false 1 z0.2 1) fun v7 =>
oF (vPart false 1 z0.2 5) fun v8 =>
oF (vPart false 1 z0.2 6) fun v9 =>
oF (vBin none .add v9 a2) fun v10 =>
oF (vPart false 1 z0.2 7) fun v11 =>
oF (vBin none .sub v10 v11) fun v12 =>
callB W 214 [v1,v2,a2] σ (fun v13 σ14 =>
callB W 214 [v3,v4,a2] σ14 (fun v15 σ16 =>
callB W 214 [v5,v6,a2] σ16 (fun v17 σ18 =>
oF (vBuild [(.str []),(.str []),(.str []),(.str []),(.int .i64 0),(.int .i64 0),(.int .i64 0)] [(0,1,a1),(1,1,v13),(2,1,v15),(3,1,v17),(4,1,v7),(5,1,v8),(6,1,v12)]) fun v19 =>
oF (vPut 7 (.agg [(.str []),(.str []),(.str []),(.str []),(.int .i64 0),(.int .i64 0),(.int .i64 0)]) 0 (.agg v19)) fun z20 =>
oF (resCons (vPart true 7 z20 0) (some [])) fun vs => wkR σ (vResults vs) σ18 R) (pNR R)) (pNR R)) (pNR R)
theorem fn99_eq (W : CallP) (a0 a1 a2 : PV) (σ : St) (R : Res → St → Prop) : bodyC (algP W) Tryz.prog ann1 99 [a0,a1,a2] σ R = fn99 Tryz.prog W a0 a1 a2 σ R := by kernel_rfl
def fn103 (Pr : Program) (W : CallP) (a0 a1 : PV) (σ : St) (R : Res → St → Prop) : Prop :=
callB W 220 [a0,a1] σ (fun v0 σ1 =>
wkR σ v0 σ1 R) (pNR R)
theorem fn103_eq (W : CallP) (a0 a1 : PV) (σ : St) (R : Res → St → Prop) : bodyC (algP W) Tryz.prog ann1 103 [a0,a1] σ R = fn103 Tryz.prog W a0 a1 σ R := by kernel_rfl
def fn220 (Pr : Program) (W : CallP) (a0 a1 : PV) (σ : St) (R : Res → St → Prop) : Prop :=
oF (vLen .str a0 σ) fun v0 =>
oF (vLen .str a1 σ) fun v1 =>
oF (vBin none .geq v0 v1) fun v2 =>
guardG False v2 true (fun J3 =>
oF (vLen .str a1 σ) fun v6 =>
oF (vSubStr a0 none (some v6)) fun v7 =>
oF (vBin none .eql v7 a1) fun v8 =>
J3 (lookE [(11,(.v a0)),(12,(.v a1)),(13,(.v v6)),(14,(.v v7)),(15,(.v a1)),(16,(.v v8))]) σ) σ (fun y4 σ5 =>
oF (vPick v2 (y4 16).pv (.bool false)) fun v9 =>
wkR σ v9 σ5 R)
theorem fn220_eq (W : CallP) (a0 a1 : PV) (σ : St) (R : Res → St → Prop) : bodyC (algP W) Tryz.prog ann1 220 [a0,a1] σ R = fn220 Tryz.prog W a0 a1 σ R := by kernel_rfl
def fn128 (Pr : Program) (W : CallP) (a0 a1 : PV) (σ : St) (R : Res → St → Prop) : Prop :=
oF (opC.vBoxAny a0) fun z0 =>
CutW σ (fun J1 =>
oF (vPart false 1 z0.2 2) fun v4 =>
oF (vPart false 1 z0.2 3) fun v5 =>
oF (vPart false 1 z0.2 4) fun v6 =>
oF (vBuildSl 1 (List.replicate 3 (.str [])) [(0,v4),(1,v5),(2,v6)]) fun v7 =>
oF (vLen .sl (.list .full v7) σ) fun v8 =>
packW [(1,a1),(13,(.list .full v7)),(14,v8),(15,(.int .i64 0))] fun x33 =>
Lfp σ (fun Φ9 x10 σ11 =>
oF (vBin none .lss (x10 15) (x10 14)) fun v12 =>
condW v12 (
oF (vIndex 1 (x10 13) (x10 15)) fun v13 =>
oF (vLoad false 1 v13 σ11) fun v14 =>
oF (vBin none .add (x10 1) (.str [32])) fun v15 =>
callB W 103 [v14,v15] σ11 (fun v16 σ17 =>
guardG False v16 false (fun J18 =>
oF (vBin none .add (.str [82,69,70,32]) (x10 1)) fun v21 =>
oF (vBin none .add v21 (.str [32])) fun v22 =>
callB W 103 [v14,v22] σ17 (fun v23 σ24 =>
J18 (lookE [(24,(.v v14)),(25,(.v (x10 1))),(26,(.v v21)),(27,(.v v22)),(28,(.v v23))]) σ24) (pNR R)) σ17 (fun y19 σ20 =>
oF (vPick v16 (.bool true) (y19 28).pv) fun v27 =>
condW v27 (
wkR σ (.bool true) σ20 R) (
oF (vBin none .add (x10 15) (.int .i64 1)) fun v28 =>
packW [(1,(x10 1)),(13,(x10 13)),(14,(x10 14)),(15,v28)] fun x29 => Φ9 x29 σ20))) (pNR R)) (
packW [] fun x32 => J1 x32 σ11)) x33 σ) (fun x2 σ3 =>
wkR σ (.bool false) σ3 R)
theorem fn128_eq (W : CallP) (a0 a1 : PV) (σ : St) (R : Res → St → Prop) : bodyC (algP W) Tryz.prog ann1 128 [a0,a1] σ R = fn128 Tryz.prog W a0 a1 σ R := by kernel_rfl
def fn129 (Pr : Program) (W : CallP) (a0 a1 a2 : PV) (σ : St) (R : Res → St → Prop) : Prop :=
oF (opC.vBoxAny a0) fun z0 =>
oF (vPart false 1 z0.2 2) fun v1 =>
oF (vPart false 1 z0.2 3) fun v2 =>
oF (vPart false 1 z0.2 4) fun v3 =>
oF (vPart false 1 z0.2 1) fun v4 =>
oF (vPart false 1 z0.2 5) fun v5 =>
oF (vBuild [(.str []),(.str []),(.str []),(.str []),(.int .i64 0),(.int .i64 0),(.int .i64 0)] [(0,1,a1),(1,1,v1),(2,1,v2),(3,1,v3),(4,1,v4),(5,1,v5)]) fun v6 =>
oF (vPut 7 (.agg [(.str []),(.str []),(.str []),(.str []),(.int .i64 0),(.int .i64 0),(.int .i64 0)]) 0 (.agg v6)) fun z7 =>
oF (vPart false 1 z7 1) fun v8 =>
oF (vPart false 1 z7 2) fun v9 =>
oF (vPart false 1 z7 3) fun v10 =>
callB W 232 [a2] σ (fun v11 σ12 =>
callB W 231 [v8,(.str [76]),v11] σ12 (fun v13 σ14 =>
callB W 232 [a2] σ14 (fun v15 σ16 =>
callB W 231 [v9,(.str [76]),v15] σ16 (fun v17 σ18 =>
callB W 232 [a2] σ18 (fun v19 σ20 =>
callB W 231 [v10,(.str [76]),v19] σ20 (fun v21 σ22 =>
oF (vPut 1 z7 1 v13) fun z23 =>
oF (vPut 1 z23 2 v17) fun z24 =>
oF (vPut 1 z24 3 v21) fun z25 =>
oF (vPart false 1 z25 2) fun v26 =>
oF (vPart false 1 z25 3) fun v27 =>
callB W 232 [a2] σ22 (fun v28 σ29 =>
callB W 231 [v26,(.str [83]),v28] σ29 (fun v30 σ31 =>
callB W 232 [a2] σ31 (fun v32 σ33 =>
callB W 231 [v27,(.str [83]),v32] σ33 (fun v34 σ35 =>
oF (vPut 1 z25 2 v30) fun z36 =>
oF (vPut 1 z36 3 v34) fun z37 =>
CutW σ (fun J38 =>
oF (vBin none .lss a2 (.int .i64 2)) fun v41 =>
condW v41 (
oF (vPart false 1 z37 2) fun v42 =>
oF (vBin none .add a2 (.int .i64 1)) fun v43 =>
oF (vPart false 1 z37 3) fun v44 =>
oF (vBin none .add a2 (.int .i64 1)) fun v45 =>
callB W 232 [v43] σ35 (fun v46 σ47 =>
callB W 231 [v42,(.str [78]),v46] σ47 (fun v48 σ49 =>
callB W 232 [v45] σ49 (fun v50 σ51 =>
callB W 231 [v44,(.str [78]),v50] σ51 (fun v52 σ53 =>
oF (vPut 1 z37 2 v48) fun z54 =>
oF (vPut 1 z54 3 v52) fun z55 =>
packW [(6,(.agg [(.str []),(.str []),(.str []),(.str []),(.int .i64 0),(.int .i64 0),(.int .i64 0)])),(7,z55)] fun x56 => J38 x56 σ53) (pNR R)) (pNR R)) (pNR R)) (pNR R)) (
packW [(6,(.agg [(.str []),(.str []),(.str []),(.str []),(.int .i64 0),(.int .i64 0),(.int .i64 0)])),(7,z37)] fun x65 => J38 x65 σ35)) (fun x39 σ40 =>
oF (vPart true 7 (x39 7) 0) fun v66 =>
oF (vPut 7 (x39 6) 0 v66) fun z67 =>
oF (resCons (vPart true 7 z67 0) (some [])) fun vs => wkR σ (vResults vs) σ40 R)) (pNR R)) (pNR R)) (pNR R)) (pNR R)) (pNR R)) (pNR R)) (pNR R)) (pNR R)) (pNR R)) (pNR R)
theorem fn129_eq (W : CallP) (a0 a1 a2 : PV) (σ : St) (R : Res → St → Prop) : bodyC (algP W) Tryz.prog ann1 129 [a0,a1,a2] σ R = fn129 Tryz.prog W a0 a1 a2 σ R := by kernel_rfl
def fn231 (Pr : Program) (W : CallP) (a0 a1 a2 : PV) (σ : St) (R : Res → St → Prop) : Prop :=
oF (vBin none .add a1 (.str [32])) fun v0 =>
callB W 103 [a0,v0] σ (fun v1 σ2 =>
condW v1 (
oF (vSubStr a0 (some (.int .i64 2)) none) fun v3 =>
oF (vBin none .add a2 v3) fun v4 =>
wkR σ v4 σ2 R) (
oF (vBin none .add (.str [82,69,70,32]) a1) fun v5 =>
oF (vBin none .add v5 (.str [32])) fun v6 =>
callB W 103 [a0,v6] σ2 (fun v7 σ8 =>
condW v7 (
oF (vBin none .add (.str [82,69,70,32]) a2) fun v9 =>
oF (vSubStr a0 (some (.int .i64 6)) none) fun v10 =>
oF (vBin none .add v9 v10) fun v11 =>
wkR σ v11 σ8 R) (
wkR σ a0 σ8 R)) (pNR R))) (pNR R)
theorem fn231_eq (W : CallP) (a0 a1 a2 : PV) (σ : St) (R : Res → St → Prop) : bodyC (algP W) Tryz.prog ann1 231 [a0,a1,a2] σ R = fn231 Tryz.prog W a0 a1 a2 σ R := by kernel_rfl
def fn232 (Pr : Program) (W : CallP) (a0 : PV) (σ : St) (R : Res → St → Prop) : Prop :=
oF (vBuildSl 1 (List.replicate 3 (.str [])) [(0,(.str [83,72,79,82,84,32])),(1,(.str [])),(2,(.str [76,79,78,71,32]))]) fun v0 =>
oF (vIndex 1 (.list .full v0) a0) fun v1 =>
oF (vLoad false 1 v1 σ) fun v2 =>
wkR σ v2 σ R
theorem fn232_eq (W : CallP) (a0 : PV) (σ : St) (R : Res → St → Prop) : bodyC (algP W) Tryz.prog ann1 232 [a0] σ R = fn232 Tryz.prog W a0 σ R := by kernel_rfl
end Go.Proofs.YtgghfcchanilpaaGreatDoor
