import Derived.KernelRfl
import Derived.Test.YtgghfcchanilpaaGreatDoorAnn
import Derived.Test.YtgghfcchanilpaaGreatDoorProg
set_option linter.unusedVariables false
set_option linter.unusedSimpArgs false
namespace Go.Proofs.YtgghfcchanilpaaGreatDoor
open Go Go.Abs
def fn23 (Pr : Program) (W : CallP) (a0 : PV) (σ : St) (R : Res → St → Prop) : Prop :=
oF (opC.vBoxAny a0) fun a =>
pF a.2 4 fun b =>
oF (vLen .sl b σ) fun b =>
bF .gtr b (nI 200) fun b =>
gF b false (fun c =>
pF a.2 0 fun d =>
oF (vLen .sl d σ) fun e =>
bF .gtr e (nI 40) fun f =>
c (lookE [(13,(.loc 1 0)),(14,(.v d)),(15,(.v e)),(16,(.v f))]) σ) σ (fun c d =>
oF (vPick b (.bool true) (c 16).pv) fun b =>
gF b false (fun c =>
pF a.2 2 fun e =>
oF (vLen .sl e d) fun f =>
bF .gtr f (nI 20) fun g =>
c (lookE [(19,(.loc 1 2)),(20,(.v e)),(21,(.v f)),(22,(.v g))]) d) d (fun c d =>
oF (vPick b (.bool true) (c 22).pv) fun b =>
gF b false (fun c =>
pF a.2 3 fun e =>
oF (vLen .sl e d) fun f =>
bF .gtr f (nI 5) fun g =>
c (lookE [(25,(.loc 1 3)),(26,(.v e)),(27,(.v f)),(28,(.v g))]) d) d (fun c d =>
oF (vPick b (.bool true) (c 28).pv) fun b =>
gF b false (fun c =>
pF a.2 7 fun e =>
oF (vLen .sl e d) fun f =>
bF .gtr f (nI 20) fun g =>
c (lookE [(31,(.loc 1 7)),(32,(.v e)),(33,(.v f)),(34,(.v g))]) d) d (fun c d =>
oF (vPick b (.bool true) (c 34).pv) fun b =>
gF b false (fun c =>
pF a.2 8 fun e =>
oF (vLen .sl e d) fun f =>
bF .gtr f (nI 20) fun g =>
c (lookE [(37,(.loc 1 8)),(38,(.v e)),(39,(.v f)),(40,(.v g))]) d) d (fun c d =>
oF (vPick b (.bool true) (c 40).pv) fun b =>
gF b false (fun c =>
pF a.2 9 fun e =>
oF (vLen .sl e d) fun f =>
bF .gtr f (nI 200) fun g =>
c (lookE [(43,(.loc 1 9)),(44,(.v e)),(45,(.v f)),(46,(.v g))]) d) d (fun c d =>
oF (vPick b (.bool true) (c 46).pv) fun b =>
gF b false (fun c =>
pF a.2 1 fun e =>
callB W 55 [e] d (fun f g =>
oF (vUn .not f) fun h =>
c (lookE [(49,(.loc 1 1)),(50,(.v e)),(51,(.v f)),(52,(.v h))]) g) (pNR R)) d (fun c d =>
oF (vPick b (.bool true) (c 52).pv) fun b =>
gF b false (fun c =>
pF a.2 5 fun e =>
callB W 55 [e] d (fun f g =>
oF (vUn .not f) fun h =>
c (lookE [(55,(.loc 1 5)),(56,(.v e)),(57,(.v f)),(58,(.v h))]) g) (pNR R)) d (fun c d =>
oF (vPick b (.bool true) (c 58).pv) fun b =>
gF b false (fun c =>
pF a.2 6 fun e =>
callB W 55 [e] d (fun f g =>
oF (vUn .not f) fun h =>
c (lookE [(61,(.loc 1 6)),(62,(.v e)),(63,(.v f)),(64,(.v h))]) g) (pNR R)) d (fun c d =>
oF (vPick b (.bool true) (c 64).pv) fun b =>
condW b (
wkR σ (.bool false) d R) (
CutW σ (fun b =>
packW [(3,(.bool true)),(4,nI 0),(1,a.2)] fun a =>
Lfp σ (fun c e f =>
pF (e 1) 0 fun g =>
oF (vLen .sl g f) fun g =>
bF .lss (e 4) g fun g =>
condW g (
gF (e 3) true (fun g =>
pF (e 1) 0 fun h =>
oF (vIndex 1 h (e 4)) fun i =>
oF (vField 0 i) fun j =>
oF (vLoad false 1 j f) fun k =>
oF (vLen .sl k f) fun l =>
bF .leq l (nI 60) fun m =>
g (lookE [(75,(.loc 1 0)),(76,(.v h)),(77,(.v (e 4))),(78,(.v i)),(79,(.v j)),(80,(.v k)),(81,(.v l)),(82,(.v m))]) f) f (fun g h =>
oF (vPick (e 3) (g 82).pv (.bool false)) fun g =>
bF .add (e 4) (nI 1) fun i =>
kF [(3,g),(4,i),(1,e 1)] c h)) (
kF [(3,e 3),(1,e 1)] b f)) a d) (fun a b =>
CutW σ (fun c =>
packW [(3,a 3),(5,nI 0),(1,a 1)] fun a =>
Lfp σ (fun d e f =>
pF (e 1) 3 fun g =>
oF (vLen .sl g f) fun g =>
bF .lss (e 5) g fun g =>
condW g (
gF (e 3) true (fun g =>
pF (e 1) 3 fun h =>
oF (vIndex 9 h (e 5)) fun i =>
oF (vField 8 i) fun j =>
oF (vLoad false 1 j f) fun k =>
oF (vLen .sl k f) fun l =>
bF .leq l (nI 20) fun m =>
g (lookE [(93,(.loc 1 3)),(94,(.v h)),(95,(.v (e 5))),(96,(.v i)),(97,(.v j)),(98,(.v k)),(99,(.v l)),(100,(.v m))]) f) f (fun g h =>
oF (vPick (e 3) (g 100).pv (.bool false)) fun g =>
bF .add (e 5) (nI 1) fun i =>
kF [(3,g),(5,i),(1,e 1)] d h)) (
kF [(3,e 3),(1,e 1)] c f)) a b) (fun a b =>
CutW σ (fun c =>
packW [(3,a 3),(6,nI 0),(1,a 1)] fun a =>
Lfp σ (fun d e f =>
pF (e 1) 7 fun g =>
oF (vLen .sl g f) fun g =>
bF .lss (e 6) g fun g =>
condW g (
gF (e 3) true (fun g =>
pF (e 1) 7 fun h =>
oF (vIndex 1 h (e 6)) fun i =>
oF (vLoad false 1 i f) fun j =>
oF (vLen .str j f) fun k =>
bF .leq k (nI 100) fun l =>
g (lookE [(111,(.loc 1 7)),(112,(.v h)),(113,(.v (e 6))),(114,(.v i)),(115,(.v j)),(116,(.v k)),(117,(.v l))]) f) f (fun g h =>
oF (vPick (e 3) (g 117).pv (.bool false)) fun g =>
bF .add (e 6) (nI 1) fun i =>
kF [(3,g),(6,i),(1,e 1)] d h)) (
kF [(3,e 3),(1,e 1)] c f)) a b) (fun a b =>
CutW σ (fun c =>
packW [(3,a 3),(7,nI 0),(1,a 1)] fun a =>
Lfp σ (fun d e f =>
pF (e 1) 8 fun g =>
oF (vLen .sl g f) fun g =>
bF .lss (e 7) g fun g =>
condW g (
gF (e 3) true (fun g =>
pF (e 1) 8 fun h =>
oF (vIndex 3 h (e 7)) fun i =>
oF (vField 0 i) fun j =>
oF (vLoad false 1 j f) fun k =>
oF (vLen .str k f) fun l =>
bF .leq l (nI 100) fun m =>
g (lookE [(128,(.loc 1 8)),(129,(.v h)),(130,(.v (e 7))),(131,(.v i)),(132,(.v j)),(133,(.v k)),(134,(.v l)),(135,(.v m))]) f) f (fun g h =>
oF (vPick (e 3) (g 135).pv (.bool false)) fun g =>
bF .add (e 7) (nI 1) fun i =>
kF [(3,g),(7,i),(1,e 1)] d h)) (
kF [(3,e 3)] c f)) a b) (fun a b =>
wkR σ (a 3) b R))))))))))))))
theorem fn23_eq (W : CallP) (a0 : PV) (σ : St) (R : Res → St → Prop) : bodyC (algP W) Tryz.prog annF 23 [a0] σ R = fn23 Tryz.prog W a0 σ R := by kernel_rfl
def fn55 (Pr : Program) (W : CallP) (a0 : PV) (σ : St) (R : Res → St → Prop) : Prop :=
CutW σ (fun a =>
packW [(0,a0),(3,nI 0)] fun b =>
Lfp σ (fun c d e =>
oF (vLen .sl (d 0) e) fun f =>
bF .lss (d 3) f fun f =>
condW f (
oF (vIndex 1 (d 0) (d 3)) fun f =>
oF (vLoad false 1 f e) fun f =>
oF (vLen .sl f e) fun f =>
bF .gtr f (nI 20) fun f =>
condW f (
wkR σ (.bool false) e R) (
bF .add (d 3) (nI 1) fun f =>
kF [(0,d 0),(3,f)] c e)) (
kF [(0,d 0)] a e)) b σ) (fun a b =>
oF (vLen .sl (a 0) b) fun a =>
bF .leq a (nI 20) fun a =>
wkR σ a b R)
theorem fn55_eq (W : CallP) (a0 : PV) (σ : St) (R : Res → St → Prop) : bodyC (algP W) Tryz.prog annF 55 [a0] σ R = fn55 Tryz.prog W a0 σ R := by kernel_rfl
def fn24 (Pr : Program) (W : CallP) (a0 : PV) (σ : St) (R : Res → St → Prop) : Prop :=
oF (opC.vBoxAny a0) fun a =>
oF (vPart true 10 a.2 0) fun b =>
callB W 56 [] σ (fun c d =>
oF (vLen .sl c []) fun c =>
callB W 57 [] d (fun d e =>
oF (vLen .sl d e) fun d =>
oF (vBuild [nL,nL,nL,nL,nL,nL,nL,nL,nL,nL,(nI 0),(nI 0)] [(0,10,b),(10,1,c),(11,1,d)]) fun b =>
oF (vPut 12 (.agg [nL,nL,nL,nL,nL,nL,nL,nL,nL,nL,(nI 0),(nI 0)]) 0 (.agg b)) fun b =>
oF (vPart true 12 b 0) fun c =>
oF (vPart true 12 b 0) fun d =>
oF (vPart true 12 b 0) fun f =>
oF (vPart true 12 b 0) fun g =>
oF (vPart true 12 b 0) fun h =>
oF (vBuildSl 1 (List.replicate 5 .nilfunc) [(0,(.func 58 1 [c])),(1,(.func 59 1 [d])),(2,(.func 60 1 [f])),(3,(.func 61 1 [g])),(4,(.func 62 1 [h]))]) fun c =>
oF (vLen .sl (.list .full c) e) fun d =>
packW [(25,(.list .full c)),(26,d),(27,nI 0),(1,a.2),(2,(.agg [(nI 0),(nI 0)])),(3,b)] fun a =>
Lfp σ (fun b c d =>
bF .lss (c 27) (c 26) fun f =>
condW f (
oF (vIndex 1 (c 25) (c 27)) fun f =>
oF (vLoad false 1 f d) fun f =>
callG (algP W) Pr false f [] d (fun f g =>
bF .neq f (nI 0) fun h =>
condW h (
oF (vBuild [(nI 0),(nI 0)] [(1,1,f)]) fun f =>
oF (vPut 2 (c 2) 0 (.agg f)) fun f =>
wvR σ (resCons (vPart true 2 f 0) (some [])) g R) (
bF .add (c 27) (nI 1) fun f =>
kF [(25,c 25),(26,c 26),(27,f),(1,c 1),(2,c 2),(3,c 3)] b g)) (pNR R)) (
pF (c 1) 4 fun b =>
oF (vLen .sl b d) fun b =>
packW [(40,b),(41,nI 0),(2,c 2),(3,c 3)] fun b =>
Lfp σ (fun c f g =>
bF .lss (f 41) (f 40) fun h =>
condW h (
oF (vPart true 12 (f 3) 0) fun h =>
callB W 63 [h,(f 41)] g (fun h i =>
bF .neq h (nI 0) fun j =>
condW j (
oF (vBuild [(nI 0),(nI 0)] [(0,1,(f 41)),(1,1,h)]) fun h =>
oF (vPut 2 (f 2) 0 (.agg h)) fun h =>
wvR σ (resCons (vPart true 2 h 0) (some [])) i R) (
bF .add (f 41) (nI 1) fun h =>
kF [(40,f 40),(41,h),(2,f 2),(3,f 3)] c i)) (pNR R)) (
oF (vBuild [(nI 0),(nI 0)] []) fun c =>
oF (vPut 2 (f 2) 0 (.agg c)) fun c =>
wvR σ (resCons (vPart true 2 c 0) (some [])) g R)) b d)) a e) (fun a a => False)) (fun a a => False)
theorem fn24_eq (W : CallP) (a0 : PV) (σ : St) (R : Res → St → Prop) : bodyC (algP W) Tryz.prog annF 24 [a0] σ R = fn24 Tryz.prog W a0 σ R := by kernel_rfl
def fn58 (Pr : Program) (W : CallP) (a0 : PV) (σ : St) (R : Res → St → Prop) : Prop :=
oF (opC.vBoxAny a0) fun a =>
pF a.2 4 fun b =>
oF (vLen .sl b σ) fun b =>
pF a.2 0 fun c =>
oF (vLen .sl c σ) fun c =>
pF a.2 1 fun d =>
oF (vLen .sl d σ) fun d =>
pF a.2 2 fun e =>
oF (vLen .sl e σ) fun e =>
pF a.2 3 fun f =>
oF (vLen .sl f σ) fun f =>
pF a.2 5 fun g =>
oF (vLen .sl g σ) fun g =>
pF a.2 6 fun h =>
oF (vLen .sl h σ) fun h =>
pF a.2 7 fun i =>
oF (vLen .sl i σ) fun i =>
pF a.2 8 fun j =>
oF (vLen .sl j σ) fun j =>
pF a.2 9 fun k =>
oF (vLen .sl k σ) fun k =>
oF (vBuildSl 1 (List.replicate 10 (nI 0)) [(0,b),(1,c),(2,d),(3,e),(4,f),(5,g),(6,h),(7,i),(8,j),(9,k)]) fun b =>
oF (vLen .sl (.list .full b) σ) fun c =>
packW [(48,(.list .full b)),(49,c),(50,nI 0),(1,a.2)] fun a =>
Lfp σ (fun b c d =>
bF .lss (c 50) (c 49) fun e =>
condW e (
oF (vIndex 1 (c 48) (c 50)) fun e =>
oF (vLoad false 1 e d) fun e =>
bF .gtr e (nI 16384) fun e =>
condW e (
wkR σ (nI 3) d R) (
bF .add (c 50) (nI 1) fun e =>
kF [(48,c 48),(49,c 49),(50,e),(1,c 1)] b d)) (
pF (c 1) 0 fun b =>
callB W 104 [b,(.func 105 0 [])] d (fun b d =>
gF b false (fun e =>
pF (c 1) 3 fun f =>
callB W 106 [f,(.func 107 0 [])] d (fun g h =>
e (lookE [(62,(.loc 1 0)),(63,(.loc 1 3)),(64,(.v f)),(65,(.v g))]) h) (pNR R)) d (fun d e =>
oF (vPick b (.bool true) (d 65).pv) fun b =>
gF b false (fun d =>
pF (c 1) 7 fun f =>
callB W 108 [f,(.func 109 0 [])] e (fun g h =>
d (lookE [(68,(.loc 1 0)),(69,(.loc 1 7)),(70,(.v f)),(71,(.v g))]) h) (pNR R)) e (fun d e =>
oF (vPick b (.bool true) (d 71).pv) fun b =>
pF (c 1) 1 fun d =>
pF (c 1) 5 fun f =>
pF (c 1) 6 fun c =>
oF (vBuildSl 1 (List.replicate 3 nL) [(0,d),(1,f),(2,c)]) fun c =>
oF (vLen .sl (.list .full c) e) fun d =>
packW [(5,b),(82,(.list .full c)),(83,d),(84,nI 0)] fun b =>
Lfp σ (fun c d f =>
bF .lss (d 84) (d 83) fun g =>
condW g (
oF (vIndex 1 (d 82) (d 84)) fun g =>
oF (vLoad false 1 g f) fun g =>
gF (d 5) false (fun h =>
callB W 110 [g,(.func 111 0 [])] f (fun i j =>
h (lookE [(90,(.v g)),(91,(.v i))]) j) (pNR R)) f (fun g h =>
oF (vPick (d 5) (.bool true) (g 91).pv) fun g =>
bF .add (d 84) (nI 1) fun i =>
kF [(5,g),(82,d 82),(83,d 83),(84,i)] c h)) (
condW (d 5) (
wkR σ (nI 3) f R) (
wkR σ (nI 0) f R))) b e))) (pNR R))) a σ
theorem fn58_eq (W : CallP) (a0 : PV) (σ : St) (R : Res → St → Prop) : bodyC (algP W) Tryz.prog annF 58 [a0] σ R = fn58 Tryz.prog W a0 σ R := by kernel_rfl
def fn59 (Pr : Program) (W : CallP) (a0 : PV) (σ : St) (R : Res → St → Prop) : Prop :=
oF (opC.vBoxAny a0) fun a =>
pF a.2 0 fun b =>
oF (vLen .sl b σ) fun c =>
packW [(9,b),(10,c),(11,nI 0),(1,a.2)] fun a =>
Lfp σ (fun b c d =>
bF .lss (c 11) (c 10) fun e =>
condW e (
oF (vIndex 1 (c 9) (c 11)) fun e =>
oF (vLoad true 1 e d) fun e =>
uF (.agg [nL]) 0 e fun e =>
pF e 0 fun e =>
oF (vLen .sl e d) fun f =>
packW [(9,c 9),(10,c 10),(11,c 11),(16,e),(17,f),(18,nI 0),(1,c 1)] fun c =>
Lfp σ (fun e f g =>
bF .lss (f 18) (f 17) fun h =>
condW h (
oF (vIndex 5 (f 16) (f 18)) fun h =>
oF (vLoad true 5 h g) fun h =>
oF (vPut 5 (.agg [(nI 0),(nI 0),(nI 0),(nI 0),(.bool false)]) 0 h) fun h =>
oF (vPart true 12 (f 1) 0) fun i =>
oF (vPart true 5 h 0) fun h =>
callB W 112 [i,h] g (fun h i =>
oF (vUn .not h) fun h =>
condW h (
wkR σ (nI 13) i R) (
bF .add (f 18) (nI 1) fun h =>
kF [(9,f 9),(10,f 10),(11,f 11),(16,f 16),(17,f 17),(18,h),(1,f 1)] e i)) (pNR R)) (
bF .add (f 11) (nI 1) fun e =>
kF [(9,f 9),(10,f 10),(11,e),(1,f 1)] b g)) c d) (
wkR σ (nI 0) d R)) a σ
theorem fn59_eq (W : CallP) (a0 : PV) (σ : St) (R : Res → St → Prop) : bodyC (algP W) Tryz.prog annF 59 [a0] σ R = fn59 Tryz.prog W a0 σ R := by kernel_rfl
def fn60 (Pr : Program) (W : CallP) (a0 : PV) (σ : St) (R : Res → St → Prop) : Prop :=
oF (opC.vBoxAny a0) fun a =>
if 0 < a.1 then newW a.1 a.2 σ fun a b =>
oF (vField 0 a) fun c =>
oF (vField 1 c) fun c =>
oF (vLoad false 1 c b) fun c =>
oF (vLen .sl c b) fun d =>
packW [(1,a),(9,c),(10,d),(11,nI 0)] fun a =>
Lfp σ (fun c d e =>
bF .lss (d 11) (d 10) fun f =>
condW f (
oF (vIndex 1 (d 9) (d 11)) fun f =>
oF (vLoad false 1 f e) fun f =>
callB W 113 [f,(.func 114 0 [(d 1)])] e (fun f g =>
condW f (
wkR σ (nI 11) g R) (
bF .add (d 11) (nI 1) fun f =>
kF [(1,d 1),(9,d 9),(10,d 10),(11,f)] c g)) (pNR R)) (
oF (vField 0 (d 1)) fun c =>
oF (vField 2 c) fun c =>
oF (vLoad false 1 c e) fun c =>
oF (vLen .sl c e) fun f =>
packW [(1,d 1),(21,c),(22,f),(23,nI 0)] fun c =>
Lfp σ (fun d f g =>
bF .lss (f 23) (f 22) fun h =>
condW h (
oF (vIndex 2 (f 21) (f 23)) fun h =>
oF (vLoad true 2 h g) fun h =>
oF (vPut 2 (.agg [(nI 0),(nI 0)]) 0 h) fun h =>
pF h 0 fun i =>
oF (vField 0 (f 1)) fun j =>
oF (vField 0 j) fun j =>
oF (vLoad false 1 j g) fun j =>
oF (vLen .sl j g) fun j =>
callB W 42 [i,j] g (fun i j =>
oF (vUn .not i) fun i =>
gF i false (fun k =>
pF h 1 fun h =>
oF (vField 0 (f 1)) fun l =>
oF (vField 0 l) fun m =>
oF (vLoad false 1 m j) fun n =>
oF (vLen .sl n j) fun o =>
callB W 42 [h,o] j (fun p q =>
oF (vUn .not p) fun r =>
k (lookE [(36,(.loc 6 1)),(37,(.v h)),(38,(.v l)),(39,(.v m)),(40,(.v n)),(41,(.v o)),(42,(.v p)),(43,(.v r))]) q) (pNR R)) j (fun h j =>
oF (vPick i (.bool true) (h 43).pv) fun h =>
condW h (
wkR σ (nI 11) j R) (
bF .add (f 23) (nI 1) fun h =>
kF [(1,f 1),(21,f 21),(22,f 22),(23,h)] d j))) (pNR R)) (
oF (vField 0 (f 1)) fun d =>
oF (vField 1 d) fun d =>
oF (vLoad false 1 d g) fun d =>
callB W 110 [d,(.func 115 0 [])] g (fun d f =>
condW d (
wkR σ (nI 12) f R) (
wkR σ (nI 0) f R)) (pNR R))) c e)) a b else False
theorem fn60_eq (W : CallP) (a0 : PV) (σ : St) (R : Res → St → Prop) : bodyC (algP W) Tryz.prog annF 60 [a0] σ R = fn60 Tryz.prog W a0 σ R := by kernel_rfl
def fn61 (Pr : Program) (W : CallP) (a0 : PV) (σ : St) (R : Res → St → Prop) : Prop :=
oF (opC.vBoxAny a0) fun a =>
pF a.2 3 fun b =>
oF (vLen .sl b σ) fun b =>
bF .eql b (nI 0) fun b =>
condW b (
wkR σ (nI 12) σ R) (
pF a.2 3 fun b =>
oF (vLen .sl b σ) fun b =>
packW [(13,b),(14,nI 0),(1,a.2)] fun a =>
Lfp σ (fun b c d =>
bF .lss (c 14) (c 13) fun e =>
condW e (
oF (vPart true 12 (c 1) 0) fun e =>
callB W 116 [e,(c 14)] d (fun e f =>
bF .neq e (nI 0) fun g =>
condW g (
wkR σ e f R) (
bF .add (c 14) (nI 1) fun e =>
kF [(13,c 13),(14,e),(1,c 1)] b f)) (pNR R)) (
wkR σ (nI 0) d R)) a σ)
theorem fn61_eq (W : CallP) (a0 : PV) (σ : St) (R : Res → St → Prop) : bodyC (algP W) Tryz.prog annF 61 [a0] σ R = fn61 Tryz.prog W a0 σ R := by kernel_rfl
def fn62 (Pr : Program) (W : CallP) (a0 : PV) (σ : St) (R : Res → St → Prop) : Prop :=
oF (opC.vBoxAny a0) fun a =>
pF a.2 8 fun b =>
oF (vLen .sl b σ) fun c =>
packW [(10,b),(11,c),(12,nI 0),(1,a.2)] fun a =>
Lfp σ (fun b c d =>
bF .lss (c 12) (c 11) fun e =>
condW e (
oF (vIndex 3 (c 10) (c 12)) fun e =>
oF (vLoad true 3 e d) fun e =>
oF (vPut 3 (.agg [(.str []),(.bool false),(nI 0)]) 0 e) fun e =>
pF e 0 fun f =>
bF .eql f (.str []) fun f =>
gF f false (fun g =>
pF e 0 fun h =>
callB W 117 [h,(.str [32])] d (fun i j =>
g (lookE [(20,(.loc 4 0)),(21,(.v h)),(22,(.v i))]) j) (pNR R)) d (fun g h =>
oF (vPick f (.bool true) (g 22).pv) fun f =>
gF f false (fun g =>
pF e 0 fun i =>
bF .add (.str [32]) i fun j =>
bF .add j (.str [32]) fun k =>
callB W 117 [(.str [32,112,114,105,110,116,32,114,101,97,100,32,112,114,105,110,116,102,32,114,101,97,100,102,32,112,117,116,98,105,110,32,103,101,116,98,105,110,32]),k] h (fun l m =>
oF (vUn .not l) fun n =>
g (lookE [(25,(.loc 4 0)),(26,(.v i)),(27,(.v j)),(28,(.v k)),(29,(.v l)),(30,(.v n))]) m) (pNR R)) h (fun g h =>
oF (vPick f (.bool true) (g 30).pv) fun f =>
gF f false (fun g =>
pF e 2 fun e =>
pF (c 1) 0 fun i =>
oF (vLen .sl i h) fun j =>
callB W 42 [e,j] h (fun k l =>
oF (vUn .not k) fun m =>
g (lookE [(33,(.loc 4 2)),(34,(.v e)),(35,(.loc 1 0)),(36,(.loc 1 0)),(37,(.v i)),(38,(.v j)),(39,(.v k)),(40,(.v m))]) l) (pNR R)) h (fun e g =>
oF (vPick f (.bool true) (e 40).pv) fun e =>
condW e (
wkR σ (nI 11) g R) (
bF .add (c 12) (nI 1) fun e =>
kF [(10,c 10),(11,c 11),(12,e),(1,c 1)] b g))))) (
pF (c 1) 9 fun b =>
oF (vLen .sl b d) fun e =>
packW [(5,(nI (-1))),(45,b),(46,e),(47,nI 0),(1,c 1)] fun b =>
Lfp σ (fun c e f =>
bF .lss (e 47) (e 46) fun g =>
condW g (
oF (vIndex 2 (e 45) (e 47)) fun g =>
oF (vLoad true 2 g f) fun g =>
oF (vPut 2 (.agg [(nI 0),(nI 0)]) 0 g) fun g =>
pF g 0 fun h =>
bF .leq h (e 5) fun h =>
gF h false (fun i =>
pF g 0 fun j =>
pF (e 1) 4 fun k =>
oF (vLen .sl k f) fun l =>
bF .geq j l fun m =>
i (lookE [(56,(.loc 7 0)),(57,(.v j)),(58,(.loc 1 0)),(59,(.loc 1 4)),(60,(.v k)),(61,(.v l)),(62,(.v m))]) f) f (fun i j =>
oF (vPick h (.bool true) (i 62).pv) fun h =>
condW h (
wkR σ (nI 10) j R) (
pF g 0 fun g =>
bF .add (e 47) (nI 1) fun h =>
kF [(5,g),(45,e 45),(46,e 46),(47,h),(1,e 1)] c j))) (
wkR σ (nI 0) f R)) b d)) a σ
theorem fn62_eq (W : CallP) (a0 : PV) (σ : St) (R : Res → St → Prop) : bodyC (algP W) Tryz.prog annF 62 [a0] σ R = fn62 Tryz.prog W a0 σ R := by kernel_rfl
def fn105 (Pr : Program) (W : CallP) (a0 : PV) (σ : St) (R : Res → St → Prop) : Prop :=
oF (opC.vBoxAny a0) fun a =>
pF a.2 0 fun a =>
oF (vLen .sl a σ) fun a =>
bF .gtr a (nI 1000) fun a =>
wkR σ a σ R
theorem fn105_eq (W : CallP) (a0 : PV) (σ : St) (R : Res → St → Prop) : bodyC (algP W) Tryz.prog annF 105 [a0] σ R = fn105 Tryz.prog W a0 σ R := by kernel_rfl
def fn107 (Pr : Program) (W : CallP) (a0 : PV) (σ : St) (R : Res → St → Prop) : Prop :=
oF (opC.vBoxAny a0) fun a =>
pF a.2 8 fun a =>
oF (vLen .sl a σ) fun a =>
bF .gtr a (nI 4000) fun a =>
wkR σ a σ R
theorem fn107_eq (W : CallP) (a0 : PV) (σ : St) (R : Res → St → Prop) : bodyC (algP W) Tryz.prog annF 107 [a0] σ R = fn107 Tryz.prog W a0 σ R := by kernel_rfl
def fn109 (Pr : Program) (W : CallP) (a0 : PV) (σ : St) (R : Res → St → Prop) : Prop :=
oF (vLen .str a0 σ) fun a =>
bF .gtr a (nI 65536) fun a =>
wkR σ a σ R
theorem fn109_eq (W : CallP) (a0 : PV) (σ : St) (R : Res → St → Prop) : bodyC (algP W) Tryz.prog annF 109 [a0] σ R = fn109 Tryz.prog W a0 σ R := by kernel_rfl
def fn111 (Pr : Program) (W : CallP) (a0 : PV) (σ : St) (R : Res → St → Prop) : Prop :=
oF (vLen .sl a0 σ) fun a =>
bF .gtr a (nI 4000) fun a =>
wkR σ a σ R
theorem fn111_eq (W : CallP) (a0 : PV) (σ : St) (R : Res → St → Prop) : bodyC (algP W) Tryz.prog annF 111 [a0] σ R = fn111 Tryz.prog W a0 σ R := by kernel_rfl
def fn112 (Pr : Program) (W : CallP) (a0 a1 : PV) (σ : St) (R : Res → St → Prop) : Prop :=
oF (opC.vBoxAny a0) fun a =>
oF (opC.vBoxAny a1) fun b =>
pF b.2 0 fun c =>
bF .eql c (nI 2) fun c =>
gF c false (fun d =>
pF b.2 0 fun e =>
bF .eql e (nI 3) fun f =>
d (lookE [(14,(.loc 3 0)),(15,(.v e)),(16,(.v f))]) σ) σ (fun d e =>
oF (vPick c (.bool true) (d 16).pv) fun c =>
gF c false (fun d =>
pF b.2 0 fun f =>
bF .eql f (nI 4) fun g =>
d (lookE [(19,(.loc 3 0)),(20,(.v f)),(21,(.v g))]) e) e (fun d e =>
oF (vPick c (.bool true) (d 21).pv) fun c =>
pF b.2 0 fun d =>
bF .eql d (nI 9) fun d =>
newMapW e fun e f =>
pF a.2 0 fun g =>
oF (vLen .sl g f) fun g =>
oF (vMapSet .int e (nI 8) g f) fun f =>
pF a.2 0 fun g =>
oF (vLen .sl g f) fun g =>
oF (vMapSet .int e (nI 9) g f) fun f =>
pF a.2 1 fun g =>
oF (vLen .sl g f) fun g =>
oF (vMapSet .int e (nI 10) g f) fun f =>
pF a.2 2 fun a =>
oF (vLen .sl a f) fun a =>
oF (vMapSet .int e (nI 11) a f) fun a =>
pF b.2 0 fun f =>
oF (vLookup .int (nI 0) true e f a) fun e =>
oF (vExtract e 0) fun f =>
oF (vExtract e 1) fun e =>
CutW σ (fun g =>
oF (vUn .not e) fun e =>
condW e (
kF [(5,c),(6,d),(8,nI 1),(3,b.2)] g a) (
kF [(5,c),(6,d),(8,f),(3,b.2)] g a)) (fun a b =>
pF (a 3) 0 fun c =>
bF .geq c (nI 0) fun c =>
gF c true (fun d =>
pF (a 3) 0 fun e =>
bF .lss e (nI 12) fun f =>
d (lookE [(57,(.loc 3 0)),(58,(.v e)),(59,(.v f))]) b) b (fun b d =>
oF (vPick c (b 59).pv (.bool false)) fun b =>
gF b true (fun c =>
pF (a 3) 1 fun e =>
bF .eql e (nI 0) fun f =>
c (lookE [(62,(.loc 3 1)),(63,(.v e)),(64,(.v f)),(65,(.v f))]) d) d (fun c d =>
gF (c 65).pv false (fun e =>
e (lookE [(66,(.v (a 5))),(67,(.v (a 5)))]) d) d (fun d e =>
gF (d 67).pv true (fun f =>
pF (a 3) 1 fun g =>
bF .geq g (nI (-1)) fun h =>
f (lookE [(68,(.loc 3 1)),(69,(.v g)),(70,(.v h))]) e) e (fun e f =>
gF (c 65).pv false (fun g =>
oF (vPick (d 67).pv (e 70).pv (.bool false)) fun d =>
g (lookE [(71,(.v d)),(72,(.v d))]) f) f (fun d e =>
gF (d 72).pv true (fun f =>
pF (a 3) 1 fun g =>
bF .leq g (nI 1) fun h =>
f (lookE [(73,(.loc 3 1)),(74,(.v g)),(75,(.v h))]) e) e (fun e f =>
gF (c 65).pv false (fun g =>
oF (vPick (d 72).pv (e 75).pv (.bool false)) fun d =>
g (lookE [(76,(.v d))]) f) f (fun d e =>
gF b true (fun f =>
oF (vPick (c 65).pv (.bool true) (d 76).pv) fun c =>
f (lookE [(77,(.v c))]) e) e (fun c d =>
oF (vPick b (c 77).pv (.bool false)) fun b =>
gF b true (fun c =>
c (lookE [(80,(.v (a 6))),(81,(.v (a 6)))]) d) d (fun c d =>
gF (c 81).pv true (fun e =>
pF (a 3) 3 fun f =>
bF .geq f (nI 1) fun g =>
e (lookE [(82,(.loc 3 3)),(83,(.v f)),(84,(.v g))]) d) d (fun d e =>
gF b true (fun f =>
oF (vPick (c 81).pv (d 84).pv (.bool false)) fun c =>
f (lookE [(85,(.v c)),(86,(.v c))]) e) e (fun c d =>
gF (c 86).pv true (fun e =>
pF (a 3) 3 fun f =>
bF .leq f (nI 3) fun g =>
e (lookE [(87,(.loc 3 3)),(88,(.v f)),(89,(.v g))]) d) d (fun d e =>
gF b true (fun f =>
oF (vPick (c 86).pv (d 89).pv (.bool false)) fun c =>
f (lookE [(90,(.v c)),(91,(.v c))]) e) e (fun c d =>
gF (c 91).pv false (fun e =>
oF (vUn .not (a 6)) fun f =>
e (lookE [(92,(.v (a 6))),(93,(.v f)),(94,(.v f))]) d) d (fun d e =>
gF (d 94).pv true (fun f =>
pF (a 3) 3 fun g =>
bF .eql g (nI 0) fun h =>
f (lookE [(95,(.loc 3 3)),(96,(.v g)),(97,(.v h))]) e) e (fun e f =>
gF (c 91).pv false (fun g =>
oF (vPick (d 94).pv (e 97).pv (.bool false)) fun d =>
g (lookE [(98,(.v d)),(99,(.v d))]) f) f (fun d e =>
gF (d 99).pv true (fun f =>
pF (a 3) 4 fun g =>
oF (vUn .not g) fun h =>
f (lookE [(100,(.loc 3 4)),(101,(.v g)),(102,(.v h))]) e) e (fun e f =>
gF (c 91).pv false (fun g =>
oF (vPick (d 99).pv (e 102).pv (.bool false)) fun d =>
g (lookE [(103,(.v d))]) f) f (fun d e =>
gF b true (fun f =>
oF (vPick (c 91).pv (.bool true) (d 103).pv) fun c =>
f (lookE [(104,(.v c))]) e) e (fun c d =>
oF (vPick b (c 104).pv (.bool false)) fun b =>
gF b true (fun c =>
pF (a 3) 2 fun e =>
callB W 42 [e,(a 8)] d (fun f g =>
c (lookE [(107,(.loc 3 2)),(108,(.v e)),(109,(.v (a 8))),(110,(.v f))]) g) (pNR R)) d (fun a c =>
oF (vPick b (a 110).pv (.bool false)) fun a =>
wkR σ a c R)))))))))))))))))))))))
theorem fn112_eq (W : CallP) (a0 a1 : PV) (σ : St) (R : Res → St → Prop) : bodyC (algP W) Tryz.prog annF 112 [a0,a1] σ R = fn112 Tryz.prog W a0 a1 σ R := by kernel_rfl
def fn114 (Pr : Program) (W : CallP) (a0 a1 : PV) (σ : St) (R : Res → St → Prop) : Prop :=
oF (vField 0 a1) fun a =>
oF (vField 0 a) fun a =>
oF (vLoad false 1 a σ) fun a =>
oF (vLen .sl a σ) fun a =>
callB W 42 [a0,a] σ (fun a b =>
oF (vUn .not a) fun a =>
wkR σ a b R) (pNR R)
theorem fn114_eq (W : CallP) (a0 a1 : PV) (σ : St) (R : Res → St → Prop) : bodyC (algP W) Tryz.prog annF 114 [a0,a1] σ R = fn114 Tryz.prog W a0 a1 σ R := by kernel_rfl
def fn115 (Pr : Program) (W : CallP) (a0 : PV) (σ : St) (R : Res → St → Prop) : Prop :=
oF (vLen .sl a0 σ) fun a =>
bF .eql a (nI 0) fun a =>
wkR σ a σ R
theorem fn115_eq (W : CallP) (a0 : PV) (σ : St) (R : Res → St → Prop) : bodyC (algP W) Tryz.prog annF 115 [a0] σ R = fn115 Tryz.prog W a0 σ R := by kernel_rfl
end Go.Proofs.YtgghfcchanilpaaGreatDoor
