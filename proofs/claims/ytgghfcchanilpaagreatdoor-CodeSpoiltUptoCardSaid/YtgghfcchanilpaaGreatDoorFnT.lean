import Derived.Test.YtgghfcchanilpaaGreatDoorTabL
import Derived.KernelRfl
import Derived.Test.YtgghfcchanilpaaGreatDoorAbsTabA
import Derived.Test.YtgghfcchanilpaaGreatDoorProg
set_option linter.unusedVariables false
set_option linter.unusedSimpArgs false
namespace Go.Proofs.YtgghfcchanilpaaGreatDoor
open Go Go.Abs
structure Ln where
 s : List UInt8
 p : Int
 l : List UInt8
 r : List UInt8
 q : List UInt8
 d : Int
 f : Int
 a : Int
 b : Int
def toLn (x : PV) : Option Ln :=
 match x with
 | .agg [.str s,.int .i64 p,.str l,.str r,.str q,.int .i64 d,.int .i64 f,.int .i64 a,.int .i64 b] => some ⟨s,p,l,r,q,d,f,a,b⟩
 | _ => none
def pvLn (x : Ln) : PV := .agg [.str x.s,.int .i64 x.p,.str x.l,.str x.r,.str x.q,.int .i64 x.d,.int .i64 x.f,.int .i64 x.a,.int .i64 x.b]
def lns : List Ln := (lines209 ++ lines210 ++ lines211).filterMap toLn
theorem lns_eq : lns.map pvLn = lines209 ++ lines210 ++ lines211 := by kernel_rfl
def Ln.ok (x : Ln) : Bool := x.s.all (fun c => decide (c.toNat < 128)) && (decide (x.s.length < 100) && (decide (0 ≤ x.a) && (decide (x.a ≤ x.b) && (decide (x.b < 3) && (decide (0 ≤ x.f) && decide (x.f < 500))))))
theorem lns_ok : lns.all Ln.ok = true := by kernel_rfl
def Ln.cnt (x : Ln) : Nat := (Go.Lib.fields x.s).length * (x.b - x.a + 1).toNat
theorem lns_cnt : (lns.map Ln.cnt).sum = 470 := by kernel_rfl
def Ln.fromTo (x : Ln) : List Int := (List.range (x.b - x.a + 1).toNat).map fun (i : Nat) => x.a + (i : Int)
def allModes : List (List UInt8 × Int) := (lns.flatMap fun x => [x.l,x.r,x.q].flatMap fun s => x.fromTo.map fun k => (s,k)).eraseDups
theorem modes_run : allModes.all (fun m => run214 m.1 m.2) = true := by kernel_rfl
theorem modes_all : lns.all (fun x => x.fromTo.all fun k => allModes.contains (x.l,k) && (allModes.contains (x.r,k) && allModes.contains (x.q,k))) = true := by kernel_rfl
end Go.Proofs.YtgghfcchanilpaaGreatDoor
namespace Go.Proofs.YtgghfcchanilpaaGreatDoor
open Go Go.Abs
def fn56 (Pr : Program) (W : CallP) (σ : St) (R : Res → St → Prop) : Prop :=
callB W 97 [] σ (fun a b =>
oF (vLen .sl a b) fun c =>
packW [(1,nL),(7,a),(8,c),(9,nI 0)] fun a =>
Lfp σ (fun c d e =>
bF .lss (d 9) (d 8) fun f =>
condW f (
oF (vIndex 9 (d 7) (d 9)) fun f =>
oF (vLoad true 9 f e) fun f =>
oF (vPut 9 (.agg [(.str []),(nI 0),(.str []),(.str []),(.str []),(nI 0),(nI 0),(nI 0),(nI 0)]) 0 f) fun f =>
pF f 0 fun g =>
callB W 98 [g] e (fun g h =>
oF (vLen .sl g h) fun i =>
packW [(1,d 1),(7,d 7),(8,d 8),(9,d 9),(15,g),(16,i),(17,nI 0),(3,f)] fun f =>
Lfp σ (fun g i j =>
bF .lss (i 17) (i 16) fun k =>
condW k (
oF (vIndex 1 (i 15) (i 17)) fun k =>
oF (vLoad false 1 k j) fun k =>
pF (i 3) 7 fun l =>
packW [(1,i 1),(5,k),(6,l),(7,i 7),(8,i 8),(9,i 9),(15,i 15),(16,i 16),(17,i 17),(3,i 3)] fun k =>
Lfp σ (fun l m n =>
pF (m 3) 8 fun o =>
bF .leq (m 6) o fun o =>
condW o (
oF (vPart true 9 (m 3) 0) fun o =>
callB W 99 [o,(m 5),(m 6)] n (fun o p =>
mF 7 (.agg [(.str []),(.str []),(.str []),(.str []),(nI 0),(nI 0),(nI 0)]) o fun o =>
bindS (vAppend 7 88 (m 1) (.list .full o) p) fun o p =>
bF .add (m 6) (nI 1) fun q =>
kF [(1,o),(5,m 5),(6,q),(7,m 7),(8,m 8),(9,m 9),(15,m 15),(16,m 16),(17,m 17),(3,m 3)] l p) (pNR R)) (
bF .add (m 17) (nI 1) fun l =>
kF [(1,m 1),(7,m 7),(8,m 8),(9,m 9),(15,m 15),(16,m 16),(17,l),(3,m 3)] g n)) k j) (
bF .add (i 9) (nI 1) fun g =>
kF [(1,i 1),(7,i 7),(8,i 8),(9,g)] c j)) f h) (pNR R)) (
wkR σ (d 1) e R)) a b) (pNR R)
theorem fn56_eq (W : CallP) (σ : St) (R : Res → St → Prop) : bodyC (algP W) Tryz.prog ann1 56 [] σ R = fn56 Tryz.prog W  σ R := by kernel_rfl
def fn68 (Pr : Program) (W : CallP) (σ : St) (R : Res → St → Prop) : Prop :=
CutW σ (fun a =>
callB W 127 [] σ (fun b c =>
oF (vLen .sl b c) fun d =>
packW [(1,nL),(11,b),(12,d),(13,nI 0)] fun b =>
Lfp σ (fun d e f =>
bF .lss (e 13) (e 12) fun g =>
condW g (
CutW σ (fun g =>
oF (vIndex 6 (e 11) (e 13)) fun h =>
oF (vLoad true 6 h f) fun h =>
oF (vPut 6 (.agg [(.str []),(nI 0),(.str []),(.str []),(.str []),(nI 0)]) 0 h) fun h =>
oF (vLen .sl (e 1) f) fun i =>
CutW σ (fun j =>
oF (vPart true 6 h 0) fun k =>
callB W 128 [k,(.str [76])] f (fun k l =>
condW k (
kF [(1,e 1),(4,i),(5,nI 3),(6,nI 0),(11,e 11),(12,e 12),(13,e 13),(3,h)] j l) (
kF [(1,e 1),(4,i),(5,nI 1),(6,nI 1),(11,e 11),(12,e 12),(13,e 13),(3,h)] j l)) (pNR R)) (fun h i =>
CutW σ (fun j =>
oF (vPart true 6 (h 3) 0) fun k =>
callB W 128 [k,(.str [83])] i (fun i k =>
condW i (
kF [(1,h 1),(4,h 4),(5,nI 2),(6,nI 0),(11,h 11),(12,h 12),(13,h 13),(3,h 3)] j k) (
kF [(1,h 1),(4,h 4),(5,h 5),(6,h 6),(11,h 11),(12,h 12),(13,h 13),(3,h 3)] j k)) (pNR R)) (fun h i =>
pF (h 3) 0 fun j =>
callB W 48 [j,(.str [32])] i (fun i j =>
oF (vLen .sl i j) fun k =>
packW [(1,h 1),(4,h 4),(5,h 5),(6,h 6),(11,h 11),(12,h 12),(13,h 13),(25,i),(26,k),(27,nI 0),(3,h 3)] fun h =>
Lfp σ (fun i k l =>
bF .lss (k 27) (k 26) fun m =>
condW m (
CutW σ (fun m =>
oF (vIndex 1 (k 25) (k 27)) fun n =>
oF (vLoad false 1 n l) fun n =>
packW [(1,k 1),(4,k 4),(5,k 5),(6,k 6),(8,n),(9,nI 0),(11,k 11),(12,k 12),(13,k 13),(25,k 25),(26,k 26),(27,k 27),(3,k 3)] fun n =>
Lfp σ (fun o p q =>
bF .lss (p 9) (p 5) fun r =>
condW r (
oF (vPart true 6 (p 3) 0) fun r =>
bF .add (p 6) (p 9) fun s =>
callB W 129 [r,(p 8),s] q (fun r s =>
oF (vPut 7 (.agg [(.str []),(.str []),(.str []),(.str []),(nI 0),(nI 0),(nI 0)]) 0 r) fun r =>
bF .add (p 4) (p 9) fun t =>
uF r 6 t fun r =>
oF (vPart true 7 r 0) fun r =>
mF 7 (.agg [(.str []),(.str []),(.str []),(.str []),(nI 0),(nI 0),(nI 0)]) r fun r =>
bindS (vAppend 7 88 (p 1) (.list .full r) s) fun r s =>
bF .add (p 9) (nI 1) fun t =>
kF [(1,r),(4,p 4),(5,p 5),(6,p 6),(8,p 8),(9,t),(11,p 11),(12,p 12),(13,p 13),(25,p 25),(26,p 26),(27,p 27),(3,p 3)] o s) (pNR R)) (
kF [(1,p 1),(4,p 4),(5,p 5),(6,p 6),(11,p 11),(12,p 12),(13,p 13),(25,p 25),(26,p 26),(27,p 27),(3,p 3)] m q)) n l) (fun m n =>
bF .add (m 27) (nI 1) fun o =>
kF [(1,m 1),(4,m 4),(5,m 5),(6,m 6),(11,m 11),(12,m 12),(13,m 13),(25,m 25),(26,m 26),(27,o),(3,m 3)] i n)) (
kF [(1,k 1),(11,k 11),(12,k 12),(13,k 13)] g l)) h j) (pNR R)))) (fun g h =>
bF .add (g 13) (nI 1) fun i =>
kF [(1,g 1),(11,g 11),(12,g 12),(13,i)] d h)) (
kF [(1,e 1)] a f)) b c) (pNR R)) (fun a b =>
wkR σ (a 1) b R)
theorem fn68_eq (W : CallP) (σ : St) (R : Res → St → Prop) : bodyC (algP W) Tryz.prog ann1 68 [] σ R = fn68 Tryz.prog W  σ R := by kernel_rfl
def fn97 (Pr : Program) (W : CallP) (σ : St) (R : Res → St → Prop) : Prop :=
callB W 209 [] σ (fun a b =>
callB W 210 [] b (fun b c =>
bindS (vAppend 9 104 a b c) fun a b =>
callB W 211 [] b (fun b c =>
bindS (vAppend 9 104 a b c) fun a b =>
wkR σ a b R) (pNR R)) (pNR R)) (pNR R)
theorem fn97_eq (W : CallP) (σ : St) (R : Res → St → Prop) : bodyC (algP W) Tryz.prog ann1 97 [] σ R = fn97 Tryz.prog W  σ R := by kernel_rfl
def fn99 (Pr : Program) (W : CallP) (a0 a1 a2 : PV) (σ : St) (R : Res → St → Prop) : Prop :=
oF (opC.vBoxAny a0) fun a =>
oF (vPart true 9 a.2 0) fun b =>
pF a.2 2 fun c =>
oF (vPart true 9 a.2 0) fun d =>
pF a.2 3 fun e =>
oF (vPart true 9 a.2 0) fun f =>
pF a.2 4 fun g =>
pF a.2 1 fun h =>
pF a.2 5 fun i =>
pF a.2 6 fun j =>
bF .add j a2 fun j =>
pF a.2 7 fun a =>
bF .sub j a fun a =>
callB W 214 [b,c,a2] σ (fun b c =>
callB W 214 [d,e,a2] c (fun c d =>
callB W 214 [f,g,a2] d (fun d e =>
oF (vBuild [(.str []),(.str []),(.str []),(.str []),(nI 0),(nI 0),(nI 0)] [(0,1,a1),(1,1,b),(2,1,c),(3,1,d),(4,1,h),(5,1,i),(6,1,a)]) fun a =>
oF (vPut 7 (.agg [(.str []),(.str []),(.str []),(.str []),(nI 0),(nI 0),(nI 0)]) 0 (.agg a)) fun a =>
wvR σ (resCons (vPart true 7 a 0) (some [])) e R) (pNR R)) (pNR R)) (pNR R)
theorem fn99_eq (W : CallP) (a0 a1 a2 : PV) (σ : St) (R : Res → St → Prop) : bodyC (algP W) Tryz.prog ann1 99 [a0,a1,a2] σ R = fn99 Tryz.prog W a0 a1 a2 σ R := by kernel_rfl
def fn103 (Pr : Program) (W : CallP) (a0 a1 : PV) (σ : St) (R : Res → St → Prop) : Prop :=
callB W 220 [a0,a1] σ (fun a b =>
wkR σ a b R) (pNR R)
theorem fn103_eq (W : CallP) (a0 a1 : PV) (σ : St) (R : Res → St → Prop) : bodyC (algP W) Tryz.prog ann1 103 [a0,a1] σ R = fn103 Tryz.prog W a0 a1 σ R := by kernel_rfl
def fn220 (Pr : Program) (W : CallP) (a0 a1 : PV) (σ : St) (R : Res → St → Prop) : Prop :=
oF (vLen .str a0 σ) fun a =>
oF (vLen .str a1 σ) fun b =>
bF .geq a b fun a =>
guardG False a true (fun b =>
oF (vLen .str a1 σ) fun c =>
oF (vSubStr a0 none (some c)) fun d =>
bF .eql d a1 fun e =>
b (lookE [(11,(.v a0)),(12,(.v a1)),(13,(.v c)),(14,(.v d)),(15,(.v a1)),(16,(.v e))]) σ) σ (fun b c =>
oF (vPick a (b 16).pv (.bool false)) fun a =>
wkR σ a c R)
theorem fn220_eq (W : CallP) (a0 a1 : PV) (σ : St) (R : Res → St → Prop) : bodyC (algP W) Tryz.prog ann1 220 [a0,a1] σ R = fn220 Tryz.prog W a0 a1 σ R := by kernel_rfl
def fn128 (Pr : Program) (W : CallP) (a0 a1 : PV) (σ : St) (R : Res → St → Prop) : Prop :=
oF (opC.vBoxAny a0) fun a =>
CutW σ (fun b =>
pF a.2 2 fun c =>
pF a.2 3 fun d =>
pF a.2 4 fun a =>
oF (vBuildSl 1 (List.replicate 3 (.str [])) [(0,c),(1,d),(2,a)]) fun a =>
oF (vLen .sl (.list .full a) σ) fun c =>
packW [(1,a1),(13,(.list .full a)),(14,c),(15,nI 0)] fun a =>
Lfp σ (fun c d e =>
bF .lss (d 15) (d 14) fun f =>
condW f (
oF (vIndex 1 (d 13) (d 15)) fun f =>
oF (vLoad false 1 f e) fun f =>
bF .add (d 1) (.str [32]) fun g =>
callB W 103 [f,g] e (fun g h =>
guardG False g false (fun i =>
bF .add (.str [82,69,70,32]) (d 1) fun j =>
bF .add j (.str [32]) fun k =>
callB W 103 [f,k] h (fun l m =>
i (lookE [(24,(.v f)),(25,(.v (d 1))),(26,(.v j)),(27,(.v k)),(28,(.v l))]) m) (pNR R)) h (fun f h =>
oF (vPick g (.bool true) (f 28).pv) fun f =>
condW f (
wkR σ (.bool true) h R) (
bF .add (d 15) (nI 1) fun f =>
kF [(1,d 1),(13,d 13),(14,d 14),(15,f)] c h))) (pNR R)) (
kF [] b e)) a σ) (fun a a =>
wkR σ (.bool false) a R)
theorem fn128_eq (W : CallP) (a0 a1 : PV) (σ : St) (R : Res → St → Prop) : bodyC (algP W) Tryz.prog ann1 128 [a0,a1] σ R = fn128 Tryz.prog W a0 a1 σ R := by kernel_rfl
def fn129 (Pr : Program) (W : CallP) (a0 a1 a2 : PV) (σ : St) (R : Res → St → Prop) : Prop :=
oF (opC.vBoxAny a0) fun a =>
pF a.2 2 fun b =>
pF a.2 3 fun c =>
pF a.2 4 fun d =>
pF a.2 1 fun e =>
pF a.2 5 fun a =>
oF (vBuild [(.str []),(.str []),(.str []),(.str []),(nI 0),(nI 0),(nI 0)] [(0,1,a1),(1,1,b),(2,1,c),(3,1,d),(4,1,e),(5,1,a)]) fun a =>
oF (vPut 7 (.agg [(.str []),(.str []),(.str []),(.str []),(nI 0),(nI 0),(nI 0)]) 0 (.agg a)) fun a =>
pF a 1 fun b =>
pF a 2 fun c =>
pF a 3 fun d =>
callB W 232 [a2] σ (fun e f =>
callB W 231 [b,(.str [76]),e] f (fun b e =>
callB W 232 [a2] e (fun e f =>
callB W 231 [c,(.str [76]),e] f (fun c e =>
callB W 232 [a2] e (fun e f =>
callB W 231 [d,(.str [76]),e] f (fun d e =>
uF a 1 b fun a =>
uF a 2 c fun a =>
uF a 3 d fun a =>
pF a 2 fun b =>
pF a 3 fun c =>
callB W 232 [a2] e (fun d e =>
callB W 231 [b,(.str [83]),d] e (fun b d =>
callB W 232 [a2] d (fun d e =>
callB W 231 [c,(.str [83]),d] e (fun c d =>
uF a 2 b fun a =>
uF a 3 c fun a =>
CutW σ (fun b =>
bF .lss a2 (nI 2) fun c =>
condW c (
pF a 2 fun c =>
bF .add a2 (nI 1) fun e =>
pF a 3 fun f =>
bF .add a2 (nI 1) fun g =>
callB W 232 [e] d (fun e h =>
callB W 231 [c,(.str [78]),e] h (fun c e =>
callB W 232 [g] e (fun e g =>
callB W 231 [f,(.str [78]),e] g (fun e f =>
uF a 2 c fun c =>
uF c 3 e fun c =>
kF [(6,(.agg [(.str []),(.str []),(.str []),(.str []),(nI 0),(nI 0),(nI 0)])),(7,c)] b f) (pNR R)) (pNR R)) (pNR R)) (pNR R)) (
kF [(6,(.agg [(.str []),(.str []),(.str []),(.str []),(nI 0),(nI 0),(nI 0)])),(7,a)] b d)) (fun a b =>
oF (vPart true 7 (a 7) 0) fun c =>
oF (vPut 7 (a 6) 0 c) fun a =>
wvR σ (resCons (vPart true 7 a 0) (some [])) b R)) (pNR R)) (pNR R)) (pNR R)) (pNR R)) (pNR R)) (pNR R)) (pNR R)) (pNR R)) (pNR R)) (pNR R)
theorem fn129_eq (W : CallP) (a0 a1 a2 : PV) (σ : St) (R : Res → St → Prop) : bodyC (algP W) Tryz.prog ann1 129 [a0,a1,a2] σ R = fn129 Tryz.prog W a0 a1 a2 σ R := by kernel_rfl
def fn231 (Pr : Program) (W : CallP) (a0 a1 a2 : PV) (σ : St) (R : Res → St → Prop) : Prop :=
bF .add a1 (.str [32]) fun a =>
callB W 103 [a0,a] σ (fun a b =>
condW a (
oF (vSubStr a0 (some (nI 2)) none) fun a =>
bF .add a2 a fun a =>
wkR σ a b R) (
bF .add (.str [82,69,70,32]) a1 fun a =>
bF .add a (.str [32]) fun a =>
callB W 103 [a0,a] b (fun a b =>
condW a (
bF .add (.str [82,69,70,32]) a2 fun a =>
oF (vSubStr a0 (some (nI 6)) none) fun c =>
bF .add a c fun a =>
wkR σ a b R) (
wkR σ a0 b R)) (pNR R))) (pNR R)
theorem fn231_eq (W : CallP) (a0 a1 a2 : PV) (σ : St) (R : Res → St → Prop) : bodyC (algP W) Tryz.prog ann1 231 [a0,a1,a2] σ R = fn231 Tryz.prog W a0 a1 a2 σ R := by kernel_rfl
def fn232 (Pr : Program) (W : CallP) (a0 : PV) (σ : St) (R : Res → St → Prop) : Prop :=
oF (vBuildSl 1 (List.replicate 3 (.str [])) [(0,(.str [83,72,79,82,84,32])),(1,(.str [])),(2,(.str [76,79,78,71,32]))]) fun a =>
oF (vIndex 1 (.list .full a) a0) fun a =>
oF (vLoad false 1 a σ) fun a =>
wkR σ a σ R
theorem fn232_eq (W : CallP) (a0 : PV) (σ : St) (R : Res → St → Prop) : bodyC (algP W) Tryz.prog ann1 232 [a0] σ R = fn232 Tryz.prog W a0 σ R := by kernel_rfl
end Go.Proofs.YtgghfcchanilpaaGreatDoor
