import Derived.KernelRfl
import Derived.Test.YtgghfcchanilpaaGreatDoorAnn
import Derived.Test.YtgghfcchanilpaaGreatDoorProg
set_option linter.unusedVariables false
set_option linter.unusedSimpArgs false
namespace Go.Proofs.YtgghfcchanilpaaGreatDoor
open Go Go.Abs
def fn63 (Pr : Program) (W : CallP) (a0 a1 : PV) (σ : St) (R : Res → St → Prop) : Prop :=
oF (opC.vBoxAny a0) fun a =>
pF a.2 4 fun b =>
oF (vIndex 12 b a1) fun b =>
oF (vLoad true 12 b σ) fun b =>
oF (vPut 12 (.agg [(nI 0),(nI 0),(nI 0),(nI 0),(nI 0),(nI 0),(nI 0),(nI 0),(nI 0),(nI 0),(nI 0),(nI 0)]) 0 b) fun b =>
pF b 0 fun c =>
callB W 39 [c] σ (fun c d =>
oF (vUn .not c) fun c =>
condW c (
wkR σ (nI 13) d R) (
oF (vPart true 12 a.2 0) fun c =>
callB W 72 [c,a1] d (fun c d =>
pF b 0 fun e =>
oF (vArrOff 2 40 e) fun k13 =>
oF (vField k13 (globPV 0)) fun e =>
oF (vField 1 e) fun e =>
oF (vLoad false 1 e d) fun e =>
oF (vPart true 3 b 1) fun f =>
oF (vPart true 3 b 4) fun g =>
oF (vPart true 3 b 7) fun h =>
oF (vBuildSl 3 (List.replicate 3 (.agg [(nI 0),(nI 0),(nI 0)])) [(0,f),(1,g),(2,h)]) fun f =>
oF (vLen .sl (.list .full f) d) fun g =>
packW [(6,c),(7,e),(34,(.list .full f)),(35,g),(36,nI 0),(2,a.2),(5,b)] fun a =>
Lfp σ (fun b c e =>
bF .lss (c 36) (c 35) fun f =>
condW f (
oF (vIndex 3 (c 34) (c 36)) fun f =>
oF (vLoad true 3 f e) fun f =>
oF (vPut 3 (.agg [(nI 0),(nI 0),(nI 0)]) 0 f) fun f =>
oF (vPart true 12 (c 2) 0) fun g =>
oF (vPart true 3 f 0) fun f =>
oF (vStrAt (c 7) (c 36)) fun h =>
callB W 118 [g,f,h,(c 6)] e (fun f g =>
oF (vUn .not f) fun f =>
condW f (
wkR σ (nI 7) g R) (
bF .add (c 36) (nI 1) fun f =>
kF [(6,c 6),(7,c 7),(34,c 34),(35,c 35),(36,f),(2,c 2),(5,c 5)] b g)) (pNR R)) (
oF (vPart true 12 (c 2) 0) fun b =>
oF (vPart true 12 (c 5) 0) fun f =>
oF (vStrAt (c 7) (nI 3)) fun g =>
callB W 119 [b,f,g,(c 6)] e (fun b e =>
oF (vUn .not b) fun b =>
gF b false (fun f =>
oF (vPart true 12 (c 2) 0) fun g =>
oF (vPart true 12 (c 5) 0) fun h =>
oF (vStrAt (c 7) (nI 4)) fun i =>
callB W 120 [g,h,i,(c 6)] e (fun j k =>
oF (vUn .not j) fun l =>
f (lookE [(58,(.v g)),(59,(.v h)),(60,(.v (c 7))),(61,(.v i)),(62,(.v (c 6))),(63,(.v j)),(64,(.v l))]) k) (pNR R)) e (fun e f =>
oF (vPick b (.bool true) (e 64).pv) fun b =>
condW b (
wkR σ (nI 11) f R) (
oF (vPart true 12 (c 2) 0) fun b =>
oF (vPart true 12 (c 5) 0) fun e =>
callB W 121 [b,e,(c 6)] f (fun b c =>
wkR σ b c R) (pNR R)))) (pNR R))) a d) (pNR R))) (pNR R)
theorem fn63_eq (W : CallP) (a0 a1 : PV) (σ : St) (R : Res → St → Prop) : bodyC (algP W) Tryz.prog annF 63 [a0,a1] σ R = fn63 Tryz.prog W a0 a1 σ R := by kernel_rfl
def fn72 (Pr : Program) (W : CallP) (a0 a1 : PV) (σ : St) (R : Res → St → Prop) : Prop :=
oF (opC.vBoxAny a0) fun a =>
oF (opC.vBoxAny a1) fun b =>
if 0 < b.1 then newW b.1 b.2 σ fun b c =>
pF a.2 3 fun a =>
callB W 136 [a,(.func 137 0 [b])] c (fun a b =>
wkR σ a b R) (pNR R) else False
theorem fn72_eq (W : CallP) (a0 a1 : PV) (σ : St) (R : Res → St → Prop) : bodyC (algP W) Tryz.prog annF 72 [a0,a1] σ R = fn72 Tryz.prog W a0 a1 σ R := by kernel_rfl
def fn116 (Pr : Program) (W : CallP) (a0 a1 : PV) (σ : St) (R : Res → St → Prop) : Prop :=
oF (opC.vBoxAny a0) fun a =>
pF a.2 3 fun b =>
oF (vIndex 9 b a1) fun b =>
oF (vLoad true 9 b σ) fun b =>
oF (vPut 9 (.agg [(nI 0),(nI 0),(nI 0),(nI 0),(nI 0),(nI 0),(nI 0),(nI 0),nL]) 0 b) fun b =>
CutW σ (fun c =>
bF .gtr a1 (nI 0) fun d =>
condW d (
pF a.2 3 fun d =>
bF .sub a1 (nI 1) fun e =>
oF (vIndex 9 d e) fun d =>
oF (vField 3 d) fun d =>
oF (vLoad false 1 d σ) fun d =>
kF [(1,a1),(6,d),(2,a.2),(5,b)] c σ) (
kF [(1,a1),(6,nI 0),(2,a.2),(5,b)] c σ)) (fun a b =>
pF (a 5) 0 fun c =>
pF (a 2) 2 fun d =>
oF (vLen .sl d b) fun d =>
callB W 42 [c,d] b (fun b c =>
oF (vUn .not b) fun b =>
gF b false (fun d =>
pF (a 5) 1 fun e =>
pF (a 2) 0 fun f =>
oF (vLen .sl f c) fun g =>
callB W 42 [e,g] c (fun h i =>
oF (vUn .not h) fun j =>
d (lookE [(42,(.loc 5 1)),(43,(.v e)),(44,(.loc 2 0)),(45,(.loc 2 0)),(46,(.v f)),(47,(.v g)),(48,(.v h)),(49,(.v j))]) i) (pNR R)) c (fun c d =>
oF (vPick b (.bool true) (c 49).pv) fun b =>
gF b false (fun c =>
bF .eql (a 1) (nI 0) fun e =>
c (lookE [(52,(.v (a 1))),(53,(.v e)),(54,(.v e))]) d) d (fun c d =>
gF (c 54).pv true (fun e =>
pF (a 5) 4 fun f =>
bF .neq f (nI (-1)) fun g =>
e (lookE [(55,(.loc 5 4)),(56,(.v f)),(57,(.v g))]) d) d (fun d e =>
gF b false (fun f =>
oF (vPick (c 54).pv (d 57).pv (.bool false)) fun c =>
f (lookE [(58,(.v c))]) e) e (fun c d =>
oF (vPick b (.bool true) (c 58).pv) fun b =>
gF b false (fun c =>
bF .gtr (a 1) (nI 0) fun e =>
c (lookE [(61,(.v (a 1))),(62,(.v e)),(63,(.v e))]) d) d (fun c d =>
gF (c 63).pv true (fun e =>
pF (a 5) 4 fun f =>
callB W 42 [f,(a 1)] d (fun g h =>
oF (vUn .not g) fun i =>
e (lookE [(64,(.loc 5 4)),(65,(.v f)),(66,(.v (a 1))),(67,(.v g)),(68,(.v i))]) h) (pNR R)) d (fun d e =>
gF b false (fun f =>
oF (vPick (c 63).pv (d 68).pv (.bool false)) fun c =>
f (lookE [(69,(.v c))]) e) e (fun c d =>
oF (vPick b (.bool true) (c 69).pv) fun b =>
condW b (
wkR σ (nI 11) d R) (
pF (a 5) 8 fun b =>
oF (vLen .sl b d) fun b =>
bF .eql b (nI 0) fun b =>
condW b (
wkR σ (nI 12) d R) (
pF (a 5) 2 fun b =>
bF .neq b (a 6) fun b =>
gF b false (fun c =>
pF (a 5) 3 fun e =>
pF (a 5) 2 fun f =>
bF .leq e f fun g =>
c (lookE [(82,(.loc 5 3)),(83,(.v e)),(84,(.loc 5 2)),(85,(.v f)),(86,(.v g))]) d) d (fun c d =>
oF (vPick b (.bool true) (c 86).pv) fun b =>
gF b false (fun c =>
pF (a 2) 3 fun e =>
oF (vLen .sl e d) fun f =>
bF .sub f (nI 1) fun g =>
bF .eql (a 1) g fun h =>
c (lookE [(89,(.v (a 1))),(90,(.loc 2 0)),(91,(.loc 2 3)),(92,(.v e)),(93,(.v f)),(94,(.v g)),(95,(.v h)),(96,(.v h))]) d) d (fun c d =>
gF (c 96).pv true (fun e =>
pF (a 5) 3 fun f =>
pF (a 2) 4 fun g =>
oF (vLen .sl g d) fun h =>
bF .neq f h fun i =>
e (lookE [(97,(.loc 5 3)),(98,(.v f)),(99,(.loc 2 0)),(100,(.loc 2 4)),(101,(.v g)),(102,(.v h)),(103,(.v i))]) d) d (fun d e =>
gF b false (fun f =>
oF (vPick (c 96).pv (d 103).pv (.bool false)) fun c =>
f (lookE [(104,(.v c))]) e) e (fun c d =>
oF (vPick b (.bool true) (c 104).pv) fun b =>
condW b (
wkR σ (nI 10) d R) (
pF (a 2) 2 fun b =>
pF (a 5) 0 fun c =>
oF (vIndex 2 b c) fun b =>
oF (vLoad true 2 b d) fun b =>
oF (vPut 2 (.agg [(nI 0),(nI 0)]) 0 b) fun b =>
pF (a 2) 0 fun c =>
pF b 1 fun e =>
oF (vIndex 1 c e) fun c =>
oF (vField 0 c) fun c =>
oF (vLoad false 1 c d) fun c =>
pF (a 2) 0 fun e =>
pF b 0 fun b =>
oF (vIndex 1 e b) fun b =>
oF (vField 0 b) fun b =>
oF (vLoad false 1 b d) fun b =>
pF (a 2) 0 fun e =>
pF (a 5) 1 fun f =>
oF (vIndex 1 e f) fun e =>
oF (vField 0 e) fun e =>
oF (vLoad false 1 e d) fun e =>
oF (vBuildSl 1 (List.replicate 2 nL) [(0,c),(1,b)]) fun b =>
callB W 225 [(.list .full b)] d (fun b d =>
bF .eql (a 1) (nI 0) fun f =>
gF f true (fun g =>
oF (vLen .sl b d) fun h =>
bF .gtr h (nI 0) fun i =>
g (lookE [(144,(.v b)),(145,(.v h)),(146,(.v i))]) d) d (fun d g =>
oF (vPick f (d 146).pv (.bool false)) fun d =>
gF d false (fun f =>
oF (vLen .sl e g) fun h =>
oF (vLen .sl b g) fun i =>
bF .lss h i fun j =>
f (lookE [(149,(.v e)),(150,(.v h)),(151,(.v b)),(152,(.v i)),(153,(.v j))]) g) g (fun f g =>
oF (vPick d (.bool true) (f 153).pv) fun d =>
gF d false (fun f =>
oF (vLen .sl b g) fun h =>
oF (vSubSl 5 e none (some h)) fun i =>
callB W 226 [i,b] g (fun j k =>
oF (vUn .not j) fun l =>
f (lookE [(156,(.v e)),(157,(.v b)),(158,(.v h)),(159,(.v i)),(160,(.v b)),(161,(.v j)),(162,(.v l))]) k) (pNR R)) g (fun b f =>
oF (vPick d (.bool true) (b 162).pv) fun b =>
condW b (
wkR σ (nI 14) f R) (
CutW σ (fun b =>
pF (a 5) 8 fun d =>
oF (vLen .sl d f) fun g =>
packW [(1,a 1),(8,c),(10,e),(165,d),(166,g),(167,nI 0),(2,a 2),(5,a 5)] fun a =>
Lfp σ (fun c d e =>
bF .lss (d 167) (d 166) fun g =>
condW g (
oF (vIndex 3 (d 165) (d 167)) fun g =>
oF (vLoad true 3 g e) fun g =>
oF (vPut 3 (.agg [(nI 0),(nI 0),(nI 0)]) 0 g) fun g =>
bF .eql (d 167) (nI 0) fun h =>
gF h true (fun i =>
pF g 0 fun j =>
bF .neq j (nI (-1)) fun k =>
i (lookE [(176,(.loc 13 0)),(177,(.v j)),(178,(.v k))]) e) e (fun i j =>
oF (vPick h (i 178).pv (.bool false)) fun h =>
gF h false (fun i =>
bF .gtr (d 167) (nI 0) fun k =>
i (lookE [(181,(.v (d 167))),(182,(.v k)),(183,(.v k))]) j) j (fun i j =>
gF (i 183).pv true (fun k =>
pF g 0 fun l =>
callB W 42 [l,(d 167)] j (fun m n =>
oF (vUn .not m) fun o =>
k (lookE [(184,(.loc 13 0)),(185,(.v l)),(186,(.v (d 167))),(187,(.v m)),(188,(.v o))]) n) (pNR R)) j (fun j k =>
gF h false (fun l =>
oF (vPick (i 183).pv (j 188).pv (.bool false)) fun i =>
l (lookE [(189,(.v i))]) k) k (fun i j =>
oF (vPick h (.bool true) (i 189).pv) fun h =>
condW h (
wkR σ (nI 10) j R) (
pF g 1 fun h =>
oF (vLen .sl (d 8) j) fun i =>
bF .lss h i fun h =>
gF h false (fun i =>
pF g 1 fun k =>
pF g 2 fun l =>
bF .gtr k l fun m =>
i (lookE [(198,(.loc 13 1)),(199,(.v k)),(200,(.loc 13 2)),(201,(.v l)),(202,(.v m))]) j) j (fun i j =>
oF (vPick h (.bool true) (i 202).pv) fun h =>
gF h false (fun i =>
pF g 2 fun g =>
oF (vLen .sl (d 10) j) fun k =>
bF .gtr g k fun l =>
i (lookE [(205,(.loc 13 2)),(206,(.v g)),(207,(.v (d 10))),(208,(.v k)),(209,(.v l))]) j) j (fun g i =>
oF (vPick h (.bool true) (g 209).pv) fun g =>
condW g (
wkR σ (nI 11) i R) (
bF .add (d 167) (nI 1) fun g =>
kF [(1,d 1),(8,d 8),(10,d 10),(165,d 165),(166,d 166),(167,g),(2,d 2),(5,d 5)] c i))))))))) (
kF [(1,d 1),(2,d 2),(5,d 5)] b e)) a f) (fun a b =>
bF .eql (a 1) (nI 0) fun c =>
gF c true (fun d =>
pF (a 5) 5 fun e =>
bF .neq e (nI (-1)) fun f =>
d (lookE [(215,(.loc 5 5)),(216,(.v e)),(217,(.v f))]) b) b (fun b d =>
oF (vPick c (b 217).pv (.bool false)) fun b =>
gF b false (fun c =>
bF .gtr (a 1) (nI 0) fun e =>
c (lookE [(220,(.v (a 1))),(221,(.v e)),(222,(.v e))]) d) d (fun c d =>
gF (c 222).pv true (fun e =>
pF (a 5) 5 fun f =>
pF (a 2) 3 fun g =>
pF (a 5) 4 fun h =>
oF (vIndex 9 g h) fun i =>
oF (vField 8 i) fun j =>
oF (vLoad false 1 j d) fun k =>
oF (vLen .sl k d) fun l =>
callB W 42 [f,l] d (fun m n =>
oF (vUn .not m) fun o =>
e (lookE [(223,(.loc 5 5)),(224,(.v f)),(225,(.loc 2 0)),(226,(.loc 2 3)),(227,(.v g)),(228,(.loc 5 4)),(229,(.v h)),(230,(.v i)),(231,(.v j)),(232,(.v k)),(233,(.v l)),(234,(.v m)),(235,(.v o))]) n) (pNR R)) d (fun d e =>
gF b false (fun f =>
oF (vPick (c 222).pv (d 235).pv (.bool false)) fun c =>
f (lookE [(236,(.v c))]) e) e (fun c d =>
oF (vPick b (.bool true) (c 236).pv) fun b =>
gF b false (fun c =>
pF (a 5) 6 fun e =>
bF .lss e (nI 0) fun f =>
c (lookE [(239,(.loc 5 6)),(240,(.v e)),(241,(.v f))]) d) d (fun c d =>
oF (vPick b (.bool true) (c 241).pv) fun b =>
gF b false (fun c =>
pF (a 5) 6 fun e =>
bF .eql e (nI 0) fun f =>
c (lookE [(244,(.loc 5 6)),(245,(.v e)),(246,(.v f)),(247,(.v f))]) d) d (fun c d =>
gF (c 247).pv true (fun e =>
pF (a 5) 7 fun f =>
bF .neq f (nI 0) fun g =>
e (lookE [(248,(.loc 5 7)),(249,(.v f)),(250,(.v g))]) d) d (fun d e =>
gF b false (fun f =>
oF (vPick (c 247).pv (d 250).pv (.bool false)) fun c =>
f (lookE [(251,(.v c))]) e) e (fun c d =>
oF (vPick b (.bool true) (c 251).pv) fun b =>
condW b (
wkR σ (nI 11) d R) (
CutW σ (fun b =>
pF (a 5) 6 fun c =>
bF .gtr c (nI 0) fun c =>
condW c (
oF (vPart true 12 (a 2) 0) fun c =>
pF (a 5) 6 fun e =>
callB W 227 [c,(a 1),e] d (fun c e =>
oF (vExtract c 0) fun f =>
oF (vExtract c 1) fun c =>
oF (vUn .not c) fun c =>
gF c false (fun g =>
pF (a 5) 7 fun h =>
pF (a 2) 3 fun a =>
oF (vIndex 9 a f) fun i =>
oF (vField 8 i) fun j =>
oF (vLoad false 1 j e) fun k =>
oF (vLen .sl k e) fun l =>
callB W 42 [h,l] e (fun m n =>
oF (vUn .not m) fun o =>
g (lookE [(267,(.loc 5 7)),(268,(.v h)),(269,(.loc 2 0)),(270,(.loc 2 3)),(271,(.v a)),(272,(.v f)),(273,(.v i)),(274,(.v j)),(275,(.v k)),(276,(.v l)),(277,(.v m)),(278,(.v o))]) n) (pNR R)) e (fun a e =>
oF (vPick c (.bool true) (a 278).pv) fun a =>
condW a (
wkR σ (nI 11) e R) (
kF [] b e))) (pNR R)) (
kF [] b d)) (fun a a =>
wkR σ (nI 0) a R)))))))))))))))) (pNR R)))))))))))))))) (pNR R))
theorem fn116_eq (W : CallP) (a0 a1 : PV) (σ : St) (R : Res → St → Prop) : bodyC (algP W) Tryz.prog annF 116 [a0,a1] σ R = fn116 Tryz.prog W a0 a1 σ R := by kernel_rfl
def fn118 (Pr : Program) (W : CallP) (a0 a1 a2 a3 : PV) (σ : St) (R : Res → St → Prop) : Prop :=
oF (opC.vBoxAny a0) fun a =>
oF (opC.vBoxAny a1) fun b =>
pF b.2 0 fun c =>
bF .eql c (nI 0) fun d =>
condW d (
bF .eql a2 (.int .u8 45) fun d =>
gF d false (fun e =>
bF .eql a2 (.int .u8 111) fun f =>
e (lookE [(20,(.v a2)),(21,(.v f))]) σ) σ (fun e f =>
oF (vPick d (.bool true) (e 21).pv) fun d =>
gF d true (fun e =>
pF b.2 1 fun g =>
bF .eql g (nI 0) fun h =>
e (lookE [(24,(.loc 5 1)),(25,(.v g)),(26,(.v h))]) f) f (fun e f =>
oF (vPick d (e 26).pv (.bool false)) fun d =>
gF d true (fun e =>
pF b.2 2 fun g =>
bF .eql g (nI 0) fun h =>
e (lookE [(29,(.loc 5 2)),(30,(.v g)),(31,(.v h))]) f) f (fun e f =>
oF (vPick d (e 31).pv (.bool false)) fun d =>
wkR σ d f R)))) (
bF .eql c (nI 1) fun d =>
condW d (
oF (vPart true 12 a.2 0) fun d =>
pF b.2 2 fun e =>
callB W 228 [d,a3,e] σ (fun d e =>
oF (vExtract d 0) fun f =>
oF (vExtract d 1) fun d =>
bF .eql a2 (.int .u8 115) fun g =>
gF g false (fun h =>
bF .eql a2 (.int .u8 111) fun i =>
h (lookE [(46,(.v a2)),(47,(.v i))]) e) e (fun e h =>
oF (vPick g (.bool true) (e 47).pv) fun e =>
gF e true (fun g =>
g (lookE [(50,(.v d))]) h) h (fun d g =>
oF (vPick e (d 50).pv (.bool false)) fun d =>
gF d true (fun e =>
pF b.2 1 fun h =>
pF a.2 0 fun i =>
pF a.2 3 fun j =>
oF (vIndex 9 j f) fun k =>
oF (vField 1 k) fun l =>
oF (vLoad false 1 l g) fun m =>
oF (vIndex 1 i m) fun n =>
oF (vField 0 n) fun o =>
oF (vLoad false 1 o g) fun p =>
oF (vLen .sl p g) fun q =>
callB W 42 [h,q] g (fun r s =>
e (lookE [(53,(.loc 5 1)),(54,(.v h)),(55,(.loc 4 0)),(56,(.loc 4 0)),(57,(.v i)),(58,(.loc 4 0)),(59,(.loc 4 3)),(60,(.v j)),(61,(.v f)),(62,(.v k)),(63,(.v l)),(64,(.v m)),(65,(.v n)),(66,(.v o)),(67,(.v p)),(68,(.v q)),(69,(.v r))]) s) (pNR R)) g (fun e f =>
oF (vPick d (e 69).pv (.bool false)) fun d =>
wkR σ d f R)))) (pNR R)) (
bF .eql c (nI 2) fun c =>
condW c (
oF (vPart true 12 a.2 0) fun c =>
pF b.2 2 fun d =>
callB W 228 [c,a3,d] σ (fun c d =>
oF (vExtract c 0) fun e =>
oF (vExtract c 1) fun c =>
bF .eql a2 (.int .u8 114) fun f =>
gF f true (fun g =>
g (lookE [(84,(.v c))]) d) d (fun c d =>
oF (vPick f (c 84).pv (.bool false)) fun c =>
gF c true (fun f =>
pF b.2 1 fun b =>
pF a.2 3 fun a =>
oF (vIndex 9 a e) fun g =>
oF (vField 8 g) fun h =>
oF (vLoad false 1 h d) fun i =>
oF (vLen .sl i d) fun j =>
callB W 42 [b,j] d (fun k l =>
f (lookE [(87,(.loc 5 1)),(88,(.v b)),(89,(.loc 4 0)),(90,(.loc 4 3)),(91,(.v a)),(92,(.v e)),(93,(.v g)),(94,(.v h)),(95,(.v i)),(96,(.v j)),(97,(.v k))]) l) (pNR R)) d (fun a b =>
oF (vPick c (a 97).pv (.bool false)) fun a =>
wkR σ a b R))) (pNR R)) (
wkR σ (.bool false) σ R)))
theorem fn118_eq (W : CallP) (a0 a1 a2 a3 : PV) (σ : St) (R : Res → St → Prop) : bodyC (algP W) Tryz.prog annF 118 [a0,a1,a2,a3] σ R = fn118 Tryz.prog W a0 a1 a2 a3 σ R := by kernel_rfl
def fn119 (Pr : Program) (W : CallP) (a0 a1 a2 a3 : PV) (σ : St) (R : Res → St → Prop) : Prop :=
oF (opC.vBoxAny a0) fun a =>
oF (opC.vBoxAny a1) fun b =>
CutW σ (fun c =>
bF .eql a2 (.int .u8 110) fun d =>
condW d (
wkR σ (.bool true) σ R) (
bF .eql a2 (.int .u8 104) fun d =>
condW d (
pF b.2 10 fun d =>
bF .eql d (nI 0) fun d =>
gF d false (fun e =>
pF b.2 10 fun f =>
bF .eql f (nI 1) fun g =>
e (lookE [(18,(.loc 5 10)),(19,(.v f)),(20,(.v g))]) σ) σ (fun e f =>
oF (vPick d (.bool true) (e 20).pv) fun d =>
wkR σ d f R)) (
bF .eql a2 (.int .u8 98) fun d =>
condW d (
pF b.2 10 fun d =>
bF .geq d (nI 0) fun d =>
gF d true (fun e =>
pF b.2 10 fun f =>
bF .leq f (nI 7) fun g =>
e (lookE [(28,(.loc 5 10)),(29,(.v f)),(30,(.v g))]) σ) σ (fun e f =>
oF (vPick d (e 30).pv (.bool false)) fun d =>
wkR σ d f R)) (
bF .eql a2 (.int .u8 77) fun d =>
condW d (
pF b.2 1 fun d =>
bF .neq d (nI 0) fun d =>
condW d (
pF b.2 10 fun d =>
bF .geq d (nI 0) fun d =>
gF d true (fun e =>
pF b.2 10 fun f =>
pF a.2 0 fun a =>
oF (vLen .sl a σ) fun g =>
bF .lss f g fun h =>
e (lookE [(42,(.loc 5 10)),(43,(.v f)),(44,(.loc 4 0)),(45,(.loc 4 0)),(46,(.v a)),(47,(.v g)),(48,(.v h))]) σ) σ (fun a e =>
oF (vPick d (a 48).pv (.bool false)) fun a =>
wkR σ a e R)) (
kF [(5,b.2)] c σ)) (
kF [(5,b.2)] c σ))))) (fun a b =>
pF (a 5) 10 fun a =>
bF .eql a (nI 0) fun a =>
wkR σ a b R)
theorem fn119_eq (W : CallP) (a0 a1 a2 a3 : PV) (σ : St) (R : Res → St → Prop) : bodyC (algP W) Tryz.prog annF 119 [a0,a1,a2,a3] σ R = fn119 Tryz.prog W a0 a1 a2 a3 σ R := by kernel_rfl
def fn120 (Pr : Program) (W : CallP) (a0 a1 a2 a3 : PV) (σ : St) (R : Res → St → Prop) : Prop :=
oF (opC.vBoxAny a0) fun a =>
oF (opC.vBoxAny a1) fun b =>
pF b.2 11 fun c =>
CutW σ (fun d =>
bF .eql a2 (.int .u8 101) fun e =>
condW e (
bF .geq c (nI (-1000)) fun e =>
gF e true (fun f =>
bF .leq c (nI 1000) fun g =>
f (lookE [(21,(.v c)),(22,(.v g))]) σ) σ (fun f g =>
oF (vPick e (f 22).pv (.bool false)) fun e =>
wkR σ e g R)) (
bF .eql a2 (.int .u8 104) fun e =>
condW e (
kF [(9,c),(10,nI 2)] d σ) (
bF .eql a2 (.int .u8 100) fun e =>
condW e (
kF [(9,c),(10,nI 3)] d σ) (
bF .eql a2 (.int .u8 68) fun e =>
condW e (
bF .geq c (nI 1) fun e =>
gF e true (fun f =>
bF .leq c (nI 3) fun g =>
f (lookE [(33,(.v c)),(34,(.v g))]) σ) σ (fun f g =>
oF (vPick e (f 34).pv (.bool false)) fun e =>
wkR σ e g R)) (
bF .eql a2 (.int .u8 117) fun e =>
condW e (
kF [(9,c),(10,nI 64)] d σ) (
bF .eql a2 (.int .u8 111) fun e =>
condW e (
condW e (
kF [(9,c),(10,nI 1000)] d σ) (
bF .eql a2 (.int .u8 109) fun e =>
condW e (
pF a.2 0 fun e =>
oF (vLen .sl e σ) fun e =>
kF [(9,c),(10,e)] d σ) (
bF .eql a2 (.int .u8 116) fun e =>
condW e (
pF a.2 7 fun e =>
oF (vLen .sl e σ) fun e =>
kF [(9,c),(10,e)] d σ) (
bF .eql a2 (.int .u8 99) fun e =>
condW e (
pF a.2 5 fun e =>
oF (vLen .sl e σ) fun e =>
kF [(9,c),(10,e)] d σ) (
bF .eql a2 (.int .u8 112) fun e =>
condW e (
pF a.2 6 fun e =>
oF (vLen .sl e σ) fun e =>
kF [(9,c),(10,e)] d σ) (
bF .eql a2 (.int .u8 120) fun e =>
condW e (
pF a.2 8 fun e =>
oF (vLen .sl e σ) fun e =>
kF [(9,c),(10,e)] d σ) (
bF .eql a2 (.int .u8 102) fun e =>
condW e (
bF .gtr c (nI 0) fun e =>
gF e true (fun f =>
pF a.2 3 fun g =>
oF (vLen .sl g σ) fun h =>
bF .lss c h fun i =>
f (lookE [(76,(.v c)),(77,(.loc 4 0)),(78,(.loc 4 3)),(79,(.v g)),(80,(.v h)),(81,(.v i))]) σ) σ (fun f g =>
oF (vPick e (f 81).pv (.bool false)) fun e =>
gF e true (fun f =>
pF a.2 3 fun h =>
oF (vIndex 9 h c) fun i =>
oF (vField 4 i) fun j =>
oF (vLoad false 1 j g) fun k =>
bF .eql k a3 fun l =>
f (lookE [(84,(.loc 4 0)),(85,(.loc 4 3)),(86,(.v h)),(87,(.v c)),(88,(.v i)),(89,(.v j)),(90,(.v k)),(91,(.v a3)),(92,(.v l))]) g) g (fun f g =>
oF (vPick e (f 92).pv (.bool false)) fun e =>
wkR σ e g R))) (
bF .eql a2 (.int .u8 103) fun e =>
condW e (
bF .gtr c (nI 0) fun e =>
gF e true (fun f =>
pF a.2 3 fun g =>
oF (vIndex 9 g a3) fun h =>
oF (vField 8 h) fun i =>
oF (vLoad false 1 i σ) fun j =>
oF (vLen .sl j σ) fun k =>
bF .lss c k fun l =>
f (lookE [(99,(.v c)),(100,(.loc 4 0)),(101,(.loc 4 3)),(102,(.v g)),(103,(.v a3)),(104,(.v h)),(105,(.v i)),(106,(.v j)),(107,(.v k)),(108,(.v l))]) σ) σ (fun f g =>
oF (vPick e (f 108).pv (.bool false)) fun e =>
wkR σ e g R)) (
bF .eql a2 (.int .u8 106) fun e =>
condW e (
pF a.2 3 fun e =>
oF (vIndex 9 e a3) fun e =>
oF (vField 2 e) fun e =>
oF (vLoad false 1 e σ) fun e =>
bF .leq e c fun e =>
gF e true (fun f =>
pF a.2 3 fun g =>
oF (vIndex 9 g a3) fun h =>
oF (vField 3 h) fun i =>
oF (vLoad false 1 i σ) fun j =>
bF .lss c j fun k =>
f (lookE [(122,(.v c)),(123,(.loc 4 0)),(124,(.loc 4 3)),(125,(.v g)),(126,(.v a3)),(127,(.v h)),(128,(.v i)),(129,(.v j)),(130,(.v k))]) σ) σ (fun f g =>
oF (vPick e (f 130).pv (.bool false)) fun e =>
wkR σ e g R)) (
bF .eql a2 (.int .u8 74) fun e =>
condW e (
oF (vPart true 12 a.2 0) fun e =>
pF b.2 3 fun f =>
callB W 227 [e,a3,f] σ (fun e f =>
oF (vExtract e 0) fun g =>
oF (vExtract e 1) fun e =>
pF a.2 3 fun e =>
oF (vIndex 9 e g) fun e =>
oF (vField 2 e) fun e =>
oF (vLoad false 1 e f) fun e =>
bF .leq e c fun e =>
gF e true (fun h =>
pF a.2 3 fun i =>
oF (vIndex 9 i g) fun j =>
oF (vField 3 j) fun k =>
oF (vLoad false 1 k f) fun l =>
bF .lss c l fun m =>
h (lookE [(153,(.v c)),(154,(.loc 4 0)),(155,(.loc 4 3)),(156,(.v i)),(157,(.v g)),(158,(.v j)),(159,(.v k)),(160,(.v l)),(161,(.v m))]) f) f (fun f g =>
oF (vPick e (f 161).pv (.bool false)) fun e =>
wkR σ e g R)) (pNR R)) (
bF .eql a2 (.int .u8 113) fun e =>
condW e (
pF a.2 10 fun e =>
kF [(9,c),(10,e)] d σ) (
bF .eql a2 (.int .u8 105) fun e =>
condW e (
pF a.2 11 fun e =>
kF [(9,c),(10,e)] d σ) (
kF [(9,c),(10,nI 1)] d σ))))))))))))) (
bF .eql a2 (.int .u8 107) fun e =>
condW e (
kF [(9,c),(10,nI 1000)] d σ) (
bF .eql a2 (.int .u8 109) fun e =>
condW e (
pF a.2 0 fun e =>
oF (vLen .sl e σ) fun e =>
kF [(9,c),(10,e)] d σ) (
bF .eql a2 (.int .u8 116) fun e =>
condW e (
pF a.2 7 fun e =>
oF (vLen .sl e σ) fun e =>
kF [(9,c),(10,e)] d σ) (
bF .eql a2 (.int .u8 99) fun e =>
condW e (
pF a.2 5 fun e =>
oF (vLen .sl e σ) fun e =>
kF [(9,c),(10,e)] d σ) (
bF .eql a2 (.int .u8 112) fun e =>
condW e (
pF a.2 6 fun e =>
oF (vLen .sl e σ) fun e =>
kF [(9,c),(10,e)] d σ) (
bF .eql a2 (.int .u8 120) fun e =>
condW e (
pF a.2 8 fun e =>
oF (vLen .sl e σ) fun e =>
kF [(9,c),(10,e)] d σ) (
bF .eql a2 (.int .u8 102) fun e =>
condW e (
bF .gtr c (nI 0) fun e =>
gF e true (fun f =>
pF a.2 3 fun g =>
oF (vLen .sl g σ) fun h =>
bF .lss c h fun i =>
f (lookE [(76,(.v c)),(77,(.loc 4 0)),(78,(.loc 4 3)),(79,(.v g)),(80,(.v h)),(81,(.v i))]) σ) σ (fun f g =>
oF (vPick e (f 81).pv (.bool false)) fun e =>
gF e true (fun f =>
pF a.2 3 fun h =>
oF (vIndex 9 h c) fun i =>
oF (vField 4 i) fun j =>
oF (vLoad false 1 j g) fun k =>
bF .eql k a3 fun l =>
f (lookE [(84,(.loc 4 0)),(85,(.loc 4 3)),(86,(.v h)),(87,(.v c)),(88,(.v i)),(89,(.v j)),(90,(.v k)),(91,(.v a3)),(92,(.v l))]) g) g (fun f g =>
oF (vPick e (f 92).pv (.bool false)) fun e =>
wkR σ e g R))) (
bF .eql a2 (.int .u8 103) fun e =>
condW e (
bF .gtr c (nI 0) fun e =>
gF e true (fun f =>
pF a.2 3 fun g =>
oF (vIndex 9 g a3) fun h =>
oF (vField 8 h) fun i =>
oF (vLoad false 1 i σ) fun j =>
oF (vLen .sl j σ) fun k =>
bF .lss c k fun l =>
f (lookE [(99,(.v c)),(100,(.loc 4 0)),(101,(.loc 4 3)),(102,(.v g)),(103,(.v a3)),(104,(.v h)),(105,(.v i)),(106,(.v j)),(107,(.v k)),(108,(.v l))]) σ) σ (fun f g =>
oF (vPick e (f 108).pv (.bool false)) fun e =>
wkR σ e g R)) (
bF .eql a2 (.int .u8 106) fun e =>
condW e (
pF a.2 3 fun e =>
oF (vIndex 9 e a3) fun e =>
oF (vField 2 e) fun e =>
oF (vLoad false 1 e σ) fun e =>
bF .leq e c fun e =>
gF e true (fun f =>
pF a.2 3 fun g =>
oF (vIndex 9 g a3) fun h =>
oF (vField 3 h) fun i =>
oF (vLoad false 1 i σ) fun j =>
bF .lss c j fun k =>
f (lookE [(122,(.v c)),(123,(.loc 4 0)),(124,(.loc 4 3)),(125,(.v g)),(126,(.v a3)),(127,(.v h)),(128,(.v i)),(129,(.v j)),(130,(.v k))]) σ) σ (fun f g =>
oF (vPick e (f 130).pv (.bool false)) fun e =>
wkR σ e g R)) (
bF .eql a2 (.int .u8 74) fun e =>
condW e (
oF (vPart true 12 a.2 0) fun e =>
pF b.2 3 fun b =>
callB W 227 [e,a3,b] σ (fun b e =>
oF (vExtract b 0) fun f =>
oF (vExtract b 1) fun b =>
pF a.2 3 fun b =>
oF (vIndex 9 b f) fun b =>
oF (vField 2 b) fun b =>
oF (vLoad false 1 b e) fun b =>
bF .leq b c fun b =>
gF b true (fun g =>
pF a.2 3 fun h =>
oF (vIndex 9 h f) fun i =>
oF (vField 3 i) fun j =>
oF (vLoad false 1 j e) fun k =>
bF .lss c k fun l =>
g (lookE [(153,(.v c)),(154,(.loc 4 0)),(155,(.loc 4 3)),(156,(.v h)),(157,(.v f)),(158,(.v i)),(159,(.v j)),(160,(.v k)),(161,(.v l))]) e) e (fun e f =>
oF (vPick b (e 161).pv (.bool false)) fun b =>
wkR σ b f R)) (pNR R)) (
bF .eql a2 (.int .u8 113) fun b =>
condW b (
pF a.2 10 fun b =>
kF [(9,c),(10,b)] d σ) (
bF .eql a2 (.int .u8 105) fun b =>
condW b (
pF a.2 11 fun a =>
kF [(9,c),(10,a)] d σ) (
kF [(9,c),(10,nI 1)] d σ))))))))))))))))))) (fun a b =>
callB W 42 [(a 9),(a 10)] b (fun a b =>
wkR σ a b R) (pNR R))
theorem fn120_eq (W : CallP) (a0 a1 a2 a3 : PV) (σ : St) (R : Res → St → Prop) : bodyC (algP W) Tryz.prog annF 120 [a0,a1,a2,a3] σ R = fn120 Tryz.prog W a0 a1 a2 a3 σ R := by kernel_rfl
def fn121 (Pr : Program) (W : CallP) (a0 a1 a2 : PV) (σ : St) (R : Res → St → Prop) : Prop :=
oF (opC.vBoxAny a0) fun a =>
oF (opC.vBoxAny a1) fun b =>
CutW σ (fun c =>
pF b.2 0 fun d =>
bF .eql d (nI 11) fun e =>
condW e (
condW e (
pF a.2 5 fun e =>
pF b.2 11 fun f =>
oF (vIndex 1 e f) fun e =>
oF (vLoad false 1 e σ) fun e =>
pF a.2 3 fun f =>
oF (vIndex 9 f a2) fun f =>
oF (vLoad true 9 f σ) fun f =>
newW 9 (.agg [(nI 0),(nI 0),(nI 0),(nI 0),(nI 0),(nI 0),(nI 0),(nI 0),nL]) σ fun g h =>
oF (vStore 9 g f h) fun f =>
oF (vLen .sl e f) fun h =>
bF .eql h (nI 0) fun h =>
gF h false (fun i =>
callB W 113 [e,(.func 229 0 [g])] f (fun j k =>
i (lookE [(32,(.v e)),(33,(.v (.func 229 0 [g]))),(34,(.v j))]) k) (pNR R)) f (fun e f =>
oF (vPick h (.bool true) (e 34).pv) fun e =>
condW e (
wkR σ (nI 11) f R) (
kF [] c f))) (
bF .eql d (nI 23) fun e =>
condW e (
pF a.2 6 fun e =>
pF b.2 11 fun f =>
oF (vIndex 1 e f) fun e =>
oF (vLoad false 1 e σ) fun e =>
callB W 113 [e,(.func 230 0 [])] σ (fun e f =>
condW e (
wkR σ (nI 11) f R) (
kF [] c f)) (pNR R)) (
kF [] c σ))) (
bF .eql d (nI 12) fun e =>
condW e (
condW e (
pF a.2 5 fun e =>
pF b.2 11 fun f =>
oF (vIndex 1 e f) fun e =>
oF (vLoad false 1 e σ) fun e =>
pF a.2 3 fun f =>
oF (vIndex 9 f a2) fun f =>
oF (vLoad true 9 f σ) fun f =>
newW 9 (.agg [(nI 0),(nI 0),(nI 0),(nI 0),(nI 0),(nI 0),(nI 0),(nI 0),nL]) σ fun g h =>
oF (vStore 9 g f h) fun f =>
oF (vLen .sl e f) fun h =>
bF .eql h (nI 0) fun h =>
gF h false (fun i =>
callB W 113 [e,(.func 229 0 [g])] f (fun j k =>
i (lookE [(32,(.v e)),(33,(.v (.func 229 0 [g]))),(34,(.v j))]) k) (pNR R)) f (fun e f =>
oF (vPick h (.bool true) (e 34).pv) fun e =>
condW e (
wkR σ (nI 11) f R) (
kF [] c f))) (
bF .eql d (nI 23) fun e =>
condW e (
pF a.2 6 fun e =>
pF b.2 11 fun f =>
oF (vIndex 1 e f) fun e =>
oF (vLoad false 1 e σ) fun e =>
callB W 113 [e,(.func 230 0 [])] σ (fun e f =>
condW e (
wkR σ (nI 11) f R) (
kF [] c f)) (pNR R)) (
kF [] c σ))) (
bF .eql d (nI 19) fun e =>
condW e (
pF a.2 5 fun e =>
pF b.2 11 fun f =>
oF (vIndex 1 e f) fun e =>
oF (vLoad false 1 e σ) fun e =>
pF a.2 3 fun f =>
oF (vIndex 9 f a2) fun f =>
oF (vLoad true 9 f σ) fun f =>
newW 9 (.agg [(nI 0),(nI 0),(nI 0),(nI 0),(nI 0),(nI 0),(nI 0),(nI 0),nL]) σ fun g h =>
oF (vStore 9 g f h) fun f =>
oF (vLen .sl e f) fun h =>
bF .eql h (nI 0) fun h =>
gF h false (fun i =>
callB W 113 [e,(.func 229 0 [g])] f (fun j k =>
i (lookE [(32,(.v e)),(33,(.v (.func 229 0 [g]))),(34,(.v j))]) k) (pNR R)) f (fun e f =>
oF (vPick h (.bool true) (e 34).pv) fun e =>
condW e (
wkR σ (nI 11) f R) (
kF [] c f))) (
bF .eql d (nI 23) fun d =>
condW d (
pF a.2 6 fun a =>
pF b.2 11 fun b =>
oF (vIndex 1 a b) fun a =>
oF (vLoad false 1 a σ) fun a =>
callB W 113 [a,(.func 230 0 [])] σ (fun a b =>
condW a (
wkR σ (nI 11) b R) (
kF [] c b)) (pNR R)) (
kF [] c σ))))) (fun a a =>
wkR σ (nI 0) a R)
theorem fn121_eq (W : CallP) (a0 a1 a2 : PV) (σ : St) (R : Res → St → Prop) : bodyC (algP W) Tryz.prog annF 121 [a0,a1,a2] σ R = fn121 Tryz.prog W a0 a1 a2 σ R := by kernel_rfl
def fn137 (Pr : Program) (W : CallP) (a0 a1 : PV) (σ : St) (R : Res → St → Prop) : Prop :=
oF (opC.vBoxAny a0) fun a =>
oF (vLoad false 1 a1 σ) fun b =>
pF a.2 2 fun c =>
bF .geq b c fun b =>
gF b true (fun c =>
oF (vLoad false 1 a1 σ) fun d =>
pF a.2 3 fun a =>
bF .lss d a fun e =>
c (lookE [(9,(.v d)),(10,(.loc 2 3)),(11,(.v a)),(12,(.v e))]) σ) σ (fun a c =>
oF (vPick b (a 12).pv (.bool false)) fun a =>
wkR σ a c R)
theorem fn137_eq (W : CallP) (a0 a1 : PV) (σ : St) (R : Res → St → Prop) : bodyC (algP W) Tryz.prog annF 137 [a0,a1] σ R = fn137 Tryz.prog W a0 a1 σ R := by kernel_rfl
def fn225 (Pr : Program) (W : CallP) (a0 : PV) (σ : St) (R : Res → St → Prop) : Prop :=
oF (vLen .sl a0 σ) fun a =>
packW [(0,a0),(3,nI 0),(9,a0),(10,a),(11,nI 0)] fun a =>
Lfp σ (fun b c d =>
bF .lss (c 11) (c 10) fun e =>
condW e (
oF (vIndex 1 (c 9) (c 11)) fun e =>
oF (vLoad false 1 e d) fun e =>
oF (vLen .sl e d) fun e =>
bF .add (c 3) e fun e =>
bF .lss e (nI 0) fun f =>
condW f (
panW (.iface 9 (.str [108,101,110,32,111,117,116,32,111,102,32,114,97,110,103,101])) fun f => R (.pan f) d) (
bF .add (c 11) (nI 1) fun f =>
kF [(0,c 0),(3,e),(9,c 9),(10,c 10),(11,f)] b d)) (
callB W 276 [nL,(c 3)] d (fun b d =>
oF (vLen .sl (c 0) d) fun e =>
packW [(6,b),(25,c 0),(26,e),(27,nI 0)] fun b =>
Lfp σ (fun c e f =>
bF .lss (e 27) (e 26) fun g =>
condW g (
oF (vIndex 1 (e 25) (e 27)) fun g =>
oF (vLoad false 1 g f) fun g =>
bindS (vAppend 5 40 (e 6) g f) fun g h =>
bF .add (e 27) (nI 1) fun i =>
kF [(6,g),(25,e 25),(26,e 26),(27,i)] c h) (
wkR σ (e 6) f R)) b d) (pNR R))) a σ
theorem fn225_eq (W : CallP) (a0 : PV) (σ : St) (R : Res → St → Prop) : bodyC (algP W) Tryz.prog annF 225 [a0] σ R = fn225 Tryz.prog W a0 σ R := by kernel_rfl
def fn226 (Pr : Program) (W : CallP) (a0 a1 : PV) (σ : St) (R : Res → St → Prop) : Prop :=
oF (vLen .sl a0 σ) fun a =>
oF (vLen .sl a1 σ) fun b =>
bF .neq a b fun a =>
condW a (
wkR σ (.bool false) σ R) (
oF (vLen .sl a0 σ) fun a =>
packW [(0,a0),(1,a1),(12,a),(13,nI 0)] fun a =>
Lfp σ (fun b c d =>
bF .lss (c 13) (c 12) fun e =>
condW e (
oF (vIndex 5 (c 0) (c 13)) fun e =>
oF (vLoad true 5 e d) fun e =>
oF (vIndex 5 (c 1) (c 13)) fun f =>
oF (vLoad true 5 f d) fun f =>
oF (vBin (some (.st [.int,.int,.int,.int,.bool])) .neq e f) fun e =>
condW e (
wkR σ (.bool false) d R) (
bF .add (c 13) (nI 1) fun e =>
kF [(0,c 0),(1,c 1),(12,c 12),(13,e)] b d)) (
wkR σ (.bool true) d R)) a σ)
theorem fn226_eq (W : CallP) (a0 a1 : PV) (σ : St) (R : Res → St → Prop) : bodyC (algP W) Tryz.prog annF 226 [a0,a1] σ R = fn226 Tryz.prog W a0 a1 σ R := by kernel_rfl
def fn227 (Pr : Program) (W : CallP) (a0 a1 a2 : PV) (σ : St) (R : Res → St → Prop) : Prop :=
oF (opC.vBoxAny a0) fun a =>
bF .lss a2 (nI 0) fun b =>
condW b (
wkR σ (.tuple [(nI 0),(.bool false)]) σ R) (
CutW σ (fun b =>
packW [(1,a1),(2,a2),(3,a.2)] fun a =>
Lfp σ (fun c d e =>
bF .gtr (d 2) (nI 0) fun f =>
condW f (
pF (d 3) 3 fun f =>
oF (vIndex 9 f (d 1)) fun f =>
oF (vField 4 f) fun f =>
oF (vLoad false 1 f e) fun f =>
bF .lss f (nI 0) fun g =>
condW g (
wkR σ (.tuple [(nI 0),(.bool false)]) e R) (
bF .sub (d 2) (nI 1) fun g =>
kF [(1,f),(2,g),(3,d 3)] c e)) (
kF [(1,d 1)] b e)) a σ) (fun a b =>
wkR σ (.tuple [(a 1),(.bool true)]) b R))
theorem fn227_eq (W : CallP) (a0 a1 a2 : PV) (σ : St) (R : Res → St → Prop) : bodyC (algP W) Tryz.prog annF 227 [a0,a1,a2] σ R = fn227 Tryz.prog W a0 a1 a2 σ R := by kernel_rfl
def fn228 (Pr : Program) (W : CallP) (a0 a1 a2 : PV) (σ : St) (R : Res → St → Prop) : Prop :=
oF (opC.vBoxAny a0) fun a =>
CutW σ (fun b =>
packW [(1,a1),(2,a2),(3,a.2)] fun a =>
Lfp σ (fun c d e =>
bF .gtr (d 2) (nI 0) fun f =>
condW f (
pF (d 3) 3 fun f =>
oF (vIndex 9 f (d 1)) fun f =>
oF (vLoad true 9 f e) fun f =>
oF (vPut 9 (.agg [(nI 0),(nI 0),(nI 0),(nI 0),(nI 0),(nI 0),(nI 0),(nI 0),nL]) 0 f) fun f =>
pF f 6 fun g =>
bF .lss g (nI 1) fun g =>
gF g false (fun h =>
pF f 6 fun i =>
bF .gtr i (d 2) fun j =>
h (lookE [(23,(.loc 8 6)),(24,(.v i)),(25,(.v (d 2))),(26,(.v j))]) e) e (fun h i =>
oF (vPick g (.bool true) (h 26).pv) fun g =>
gF g false (fun h =>
pF f 4 fun j =>
bF .lss j (nI 0) fun k =>
h (lookE [(29,(.loc 8 4)),(30,(.v j)),(31,(.v k))]) i) i (fun h i =>
oF (vPick g (.bool true) (h 31).pv) fun g =>
condW g (
wkR σ (.tuple [(nI 0),(.bool false)]) i R) (
pF f 4 fun f =>
bF .sub (d 2) (nI 1) fun g =>
kF [(1,f),(2,g),(3,d 3)] c i)))) (
kF [(1,d 1),(2,d 2)] b e)) a σ) (fun a b =>
bF .eql (a 2) (nI 0) fun c =>
wkR σ (.tuple [(a 1),c]) b R)
theorem fn228_eq (W : CallP) (a0 a1 a2 : PV) (σ : St) (R : Res → St → Prop) : bodyC (algP W) Tryz.prog annF 228 [a0,a1,a2] σ R = fn228 Tryz.prog W a0 a1 a2 σ R := by kernel_rfl
def fn229 (Pr : Program) (W : CallP) (a0 a1 : PV) (σ : St) (R : Res → St → Prop) : Prop :=
oF (vField 2 a1) fun a =>
oF (vLoad false 1 a σ) fun a =>
bF .lss a0 a fun a =>
gF a false (fun b =>
oF (vField 3 a1) fun c =>
oF (vLoad false 1 c σ) fun d =>
bF .geq a0 d fun e =>
b (lookE [(9,(.v a0)),(10,(.v c)),(11,(.v d)),(12,(.v e))]) σ) σ (fun b c =>
oF (vPick a (.bool true) (b 12).pv) fun a =>
wkR σ a c R)
theorem fn229_eq (W : CallP) (a0 a1 : PV) (σ : St) (R : Res → St → Prop) : bodyC (algP W) Tryz.prog annF 229 [a0,a1] σ R = fn229 Tryz.prog W a0 a1 σ R := by kernel_rfl
def fn230 (Pr : Program) (W : CallP) (a0 : PV) (σ : St) (R : Res → St → Prop) : Prop :=
bF .lss a0 (nI (-1)) fun a =>
gF a false (fun b =>
bF .geq a0 (nI 64) fun c =>
b (lookE [(6,(.v a0)),(7,(.v c))]) σ) σ (fun b c =>
oF (vPick a (.bool true) (b 7).pv) fun a =>
wkR σ a c R)
theorem fn230_eq (W : CallP) (a0 : PV) (σ : St) (R : Res → St → Prop) : bodyC (algP W) Tryz.prog annF 230 [a0] σ R = fn230 Tryz.prog W a0 σ R := by kernel_rfl
def fn276 (Pr : Program) (W : CallP) (a0 a1 : PV) (σ : St) (R : Res → St → Prop) : Prop :=
bF .lss a1 (nI 0) fun a =>
condW a (
panW (.iface 9 (.str [99,97,110,110,111,116,32,98,101,32,110,101,103,97,116,105,118,101])) fun a => R (.pan a) σ) (
oF (vCap a0) fun a =>
oF (vLen .sl a0 σ) fun b =>
bF .sub a b fun a =>
bF .sub a1 a fun a =>
bF .gtr a (nI 0) fun b =>
condW b (
oF (vCap a0) fun b =>
oF (vSubSl 5 a0 none (some b)) fun b =>
bindS (vAppendMk 5 40 (.agg [(nI 0),(nI 0),(nI 0),(nI 0),(.bool false)]) b a σ) fun a b =>
oF (vLen .sl a0 b) fun c =>
oF (vSubSl 5 a none (some c)) fun a =>
wkR σ a b R) (
wkR σ a0 σ R))
theorem fn276_eq (W : CallP) (a0 a1 : PV) (σ : St) (R : Res → St → Prop) : bodyC (algP W) Tryz.prog annF 276 [a0,a1] σ R = fn276 Tryz.prog W a0 a1 σ R := by kernel_rfl
end Go.Proofs.YtgghfcchanilpaaGreatDoor
