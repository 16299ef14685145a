import Derived.KernelRfl
import Derived.Test.YtgghfcchanilpaaGreatDoorAnn
import Derived.Test.YtgghfcchanilpaaGreatDoorProg
set_option linter.unusedVariables false
set_option linter.unusedSimpArgs false
namespace Go.Proofs.YtgghfcchanilpaaGreatDoor
open Go Go.Abs
def fn10 (Pr : Program) (W : CallP) (a0 : PV) (σ : St) (R : Res → St → Prop) : Prop :=
oF (opC.vBoxAny a0) fun a =>
callB W 12 [] σ (fun b c =>
oF (vUn .not b) fun b =>
gF b false (fun d =>
oF (vPart true 10 a.2 0) fun e =>
callB W 23 [e] c (fun f g =>
oF (vUn .not f) fun h =>
d (lookE [(12,(.v e)),(13,(.v f)),(14,(.v h))]) g) (pNR R)) c (fun c d =>
oF (vPick b (.bool true) (c 14).pv) fun b =>
condW b (
callB W 12 [] d (fun b c =>
wkR σ b c R) (pNR R)) (
oF (vPart true 10 a.2 0) fun b =>
callB W 29 [b] d (fun b c =>
oF (vExtract b 0) fun d =>
oF (vExtract b 1) fun b =>
bF .neq b (nI 0) fun e =>
condW e (
bF .eql d (.str []) fun e =>
gF e true (fun f =>
oF (vPart true 10 a.2 0) fun g =>
callB W 24 [g] c (fun h i =>
oF (vFieldV false 1 h 1) fun j =>
bF .eql j b fun k =>
f (lookE [(27,(.v g)),(28,(.v h)),(29,(.v j)),(30,(.v b)),(31,(.v k))]) i) (pNR R)) c (fun b f =>
oF (vPick e (b 31).pv (.bool false)) fun b =>
wkR σ b f R)) (
callB W 32 [d] c (fun b c =>
oF (vExtract b 0) fun e =>
oF (vExtract b 1) fun b =>
oF (vPut 10 (.agg [nL,nL,nL,nL,nL,nL,nL,nL,nL,nL]) 0 e) fun e =>
oF (vPart true 10 e 0) fun f =>
callB W 29 [f] c (fun c f =>
oF (vExtract c 0) fun g =>
oF (vExtract c 1) fun c =>
bF .eql b (nI 0) fun b =>
gF b true (fun h =>
bF .eql c (nI 0) fun i =>
h (lookE [(46,(.v c)),(47,(.v i))]) f) f (fun c f =>
oF (vPick b (c 47).pv (.bool false)) fun b =>
gF b true (fun c =>
oF (vPart true 10 a.2 0) fun a =>
oF (vPart true 10 e 0) fun e =>
callB W 34 [a,e] f (fun h i =>
c (lookE [(50,(.v a)),(51,(.v e)),(52,(.v h))]) i) (pNR R)) f (fun a c =>
oF (vPick b (a 52).pv (.bool false)) fun a =>
gF a true (fun b =>
bF .eql d g fun e =>
b (lookE [(55,(.v d)),(56,(.v g)),(57,(.v e))]) c) c (fun b c =>
oF (vPick a (b 57).pv (.bool false)) fun a =>
wkR σ a c R)))) (pNR R)) (pNR R))) (pNR R)))) (pNR R)
theorem fn10_eq (W : CallP) (a0 : PV) (σ : St) (R : Res → St → Prop) : bodyC (algP W) Tryz.prog annF 10 [a0] σ R = fn10 Tryz.prog W a0 σ R := by kernel_rfl
def fn29 (Pr : Program) (W : CallP) (a0 : PV) (σ : St) (R : Res → St → Prop) : Prop :=
oF (opC.vBoxAny a0) fun a =>
oF (vPart true 10 a.2 0) fun b =>
callB W 24 [b] σ (fun b c =>
oF (vPut 2 (.agg [(nI 0),(nI 0)]) 0 b) fun b =>
pF b 1 fun d =>
bF .neq d (nI 0) fun d =>
condW d (
pF b 1 fun b =>
wkR σ (.tuple [(.str []),b]) c R) (
oF (vBuildSl 1 (List.replicate 4 (.int .u8 0)) [(0,(.int .u8 69)),(1,(.int .u8 78)),(2,(.int .u8 86)),(3,(.int .u8 49))]) fun b =>
markW (.list .full b) fun b =>
oF (vBuild [nL] [(0,1,(.list .full b))]) fun b =>
oF (opC.vBoxAny (.agg b)) fun b =>
if 0 < b.1 then newW b.1 b.2 c fun b c =>
oF (vPart true 10 a.2 0) fun a =>
callB W 77 [b,a] c (fun a a =>
lF b 0 a fun c =>
lF b 0 a fun d =>
callC W 79 [d] a fun d _ =>
callC W 78 [d] a fun d _ =>
bindS (vAppendT 23 1 1 c d a) fun a c =>
sF b 0 a c fun a =>
lF b 0 a fun c =>
oF (vLen .sl c a) fun c =>
bF .gtr c (nI 1048576) fun c =>
condW c (
wkR σ (.tuple [(.str []),(nI 3)]) a R) (
lF b 0 a fun b =>
oF (vToStr b a) fun b =>
wkR σ (.tuple [b,(nI 0)]) a R)) (pNR R) else False)) (pNR R)
theorem fn29_eq (W : CallP) (a0 : PV) (σ : St) (R : Res → St → Prop) : bodyC (algP W) Tryz.prog annF 29 [a0] σ R = fn29 Tryz.prog W a0 σ R := by kernel_rfl
def fn34 (Pr : Program) (W : CallP) (a0 a1 : PV) (σ : St) (R : Res → St → Prop) : Prop :=
oF (opC.vBoxAny a0) fun a =>
oF (opC.vBoxAny a1) fun b =>
pF a.2 0 fun c =>
pF b.2 0 fun d =>
callB W 86 [c,d] σ (fun c d =>
oF (vUn .not c) fun c =>
gF c false (fun e =>
pF a.2 1 fun f =>
pF b.2 1 fun g =>
callB W 87 [f,g] d (fun h i =>
oF (vUn .not h) fun j =>
e (lookE [(18,(.loc 2 1)),(19,(.v f)),(20,(.loc 3 1)),(21,(.v g)),(22,(.v h)),(23,(.v j))]) i) (pNR R)) d (fun d e =>
oF (vPick c (.bool true) (d 23).pv) fun c =>
gF c false (fun d =>
pF a.2 3 fun f =>
pF b.2 3 fun g =>
callB W 88 [f,g] e (fun h i =>
oF (vUn .not h) fun j =>
d (lookE [(26,(.loc 2 3)),(27,(.v f)),(28,(.loc 3 3)),(29,(.v g)),(30,(.v h)),(31,(.v j))]) i) (pNR R)) e (fun d e =>
oF (vPick c (.bool true) (d 31).pv) fun c =>
gF c false (fun d =>
pF a.2 5 fun f =>
pF b.2 5 fun g =>
callB W 87 [f,g] e (fun h i =>
oF (vUn .not h) fun j =>
d (lookE [(34,(.loc 2 5)),(35,(.v f)),(36,(.loc 3 5)),(37,(.v g)),(38,(.v h)),(39,(.v j))]) i) (pNR R)) e (fun d e =>
oF (vPick c (.bool true) (d 39).pv) fun c =>
gF c false (fun d =>
pF a.2 6 fun f =>
pF b.2 6 fun g =>
callB W 87 [f,g] e (fun h i =>
oF (vUn .not h) fun j =>
d (lookE [(42,(.loc 2 6)),(43,(.v f)),(44,(.loc 3 6)),(45,(.v g)),(46,(.v h)),(47,(.v j))]) i) (pNR R)) e (fun d e =>
oF (vPick c (.bool true) (d 47).pv) fun c =>
gF c false (fun d =>
pF a.2 2 fun f =>
oF (vLen .sl f e) fun g =>
pF b.2 2 fun h =>
oF (vLen .sl h e) fun i =>
bF .neq g i fun j =>
d (lookE [(50,(.loc 2 2)),(51,(.v f)),(52,(.v g)),(53,(.loc 3 2)),(54,(.v h)),(55,(.v i)),(56,(.v j))]) e) e (fun d e =>
oF (vPick c (.bool true) (d 56).pv) fun c =>
gF c false (fun d =>
pF a.2 4 fun f =>
oF (vLen .sl f e) fun g =>
pF b.2 4 fun h =>
oF (vLen .sl h e) fun i =>
bF .neq g i fun j =>
d (lookE [(59,(.loc 2 4)),(60,(.v f)),(61,(.v g)),(62,(.loc 3 4)),(63,(.v h)),(64,(.v i)),(65,(.v j))]) e) e (fun d e =>
oF (vPick c (.bool true) (d 65).pv) fun c =>
gF c false (fun d =>
pF a.2 7 fun f =>
oF (vLen .sl f e) fun g =>
pF b.2 7 fun h =>
oF (vLen .sl h e) fun i =>
bF .neq g i fun j =>
d (lookE [(68,(.loc 2 7)),(69,(.v f)),(70,(.v g)),(71,(.loc 3 7)),(72,(.v h)),(73,(.v i)),(74,(.v j))]) e) e (fun d e =>
oF (vPick c (.bool true) (d 74).pv) fun c =>
gF c false (fun d =>
pF a.2 8 fun f =>
oF (vLen .sl f e) fun g =>
pF b.2 8 fun h =>
oF (vLen .sl h e) fun i =>
bF .neq g i fun j =>
d (lookE [(77,(.loc 2 8)),(78,(.v f)),(79,(.v g)),(80,(.loc 3 8)),(81,(.v h)),(82,(.v i)),(83,(.v j))]) e) e (fun d e =>
oF (vPick c (.bool true) (d 83).pv) fun c =>
gF c false (fun d =>
pF a.2 9 fun f =>
oF (vLen .sl f e) fun g =>
pF b.2 9 fun h =>
oF (vLen .sl h e) fun i =>
bF .neq g i fun j =>
d (lookE [(86,(.loc 2 9)),(87,(.v f)),(88,(.v g)),(89,(.loc 3 9)),(90,(.v h)),(91,(.v i)),(92,(.v j))]) e) e (fun d e =>
oF (vPick c (.bool true) (d 92).pv) fun c =>
condW c (
wkR σ (.bool false) e R) (
CutW σ (fun c =>
packW [(5,(.bool true)),(6,nI 0),(2,a.2),(3,b.2)] fun a =>
Lfp σ (fun b d f =>
pF (d 2) 2 fun g =>
oF (vLen .sl g f) fun g =>
bF .lss (d 6) g fun g =>
condW g (
gF (d 5) true (fun g =>
pF (d 2) 2 fun h =>
oF (vIndex 2 h (d 6)) fun i =>
oF (vLoad true 2 i f) fun j =>
pF (d 3) 2 fun k =>
oF (vIndex 2 k (d 6)) fun l =>
oF (vLoad true 2 l f) fun m =>
oF (vBin (some (.st [.int,.int])) .eql j m) fun n =>
g (lookE [(103,(.loc 2 2)),(104,(.v h)),(105,(.v (d 6))),(106,(.v i)),(107,(.v j)),(108,(.loc 3 2)),(109,(.v k)),(110,(.v (d 6))),(111,(.v l)),(112,(.v m)),(113,(.v n))]) f) f (fun g h =>
oF (vPick (d 5) (g 113).pv (.bool false)) fun g =>
bF .add (d 6) (nI 1) fun i =>
kF [(5,g),(6,i),(2,d 2),(3,d 3)] b h)) (
kF [(5,d 5),(2,d 2),(3,d 3)] c f)) a e) (fun a b =>
CutW σ (fun c =>
packW [(5,a 5),(7,nI 0),(2,a 2),(3,a 3)] fun a =>
Lfp σ (fun d e f =>
pF (e 2) 4 fun g =>
oF (vLen .sl g f) fun g =>
bF .lss (e 7) g fun g =>
condW g (
gF (e 5) true (fun g =>
pF (e 2) 4 fun h =>
oF (vIndex 12 h (e 7)) fun i =>
oF (vLoad true 12 i f) fun j =>
pF (e 3) 4 fun k =>
oF (vIndex 12 k (e 7)) fun l =>
oF (vLoad true 12 l f) fun m =>
oF (vBin (some (.st [.int,.int,.int,.int,.int,.int,.int,.int,.int,.int,.int,.int])) .eql j m) fun n =>
g (lookE [(124,(.loc 2 4)),(125,(.v h)),(126,(.v (e 7))),(127,(.v i)),(128,(.v j)),(129,(.loc 3 4)),(130,(.v k)),(131,(.v (e 7))),(132,(.v l)),(133,(.v m)),(134,(.v n))]) f) f (fun g h =>
oF (vPick (e 5) (g 134).pv (.bool false)) fun g =>
bF .add (e 7) (nI 1) fun i =>
kF [(5,g),(7,i),(2,e 2),(3,e 3)] d h)) (
kF [(5,e 5),(2,e 2),(3,e 3)] c f)) a b) (fun a b =>
CutW σ (fun c =>
packW [(5,a 5),(8,nI 0),(2,a 2),(3,a 3)] fun a =>
Lfp σ (fun d e f =>
pF (e 2) 7 fun g =>
oF (vLen .sl g f) fun g =>
bF .lss (e 8) g fun g =>
condW g (
gF (e 5) true (fun g =>
pF (e 2) 7 fun h =>
oF (vIndex 1 h (e 8)) fun i =>
oF (vLoad false 1 i f) fun j =>
pF (e 3) 7 fun k =>
oF (vIndex 1 k (e 8)) fun l =>
oF (vLoad false 1 l f) fun m =>
bF .eql j m fun n =>
g (lookE [(145,(.loc 2 7)),(146,(.v h)),(147,(.v (e 8))),(148,(.v i)),(149,(.v j)),(150,(.loc 3 7)),(151,(.v k)),(152,(.v (e 8))),(153,(.v l)),(154,(.v m)),(155,(.v n))]) f) f (fun g h =>
oF (vPick (e 5) (g 155).pv (.bool false)) fun g =>
bF .add (e 8) (nI 1) fun i =>
kF [(5,g),(8,i),(2,e 2),(3,e 3)] d h)) (
kF [(5,e 5),(2,e 2),(3,e 3)] c f)) a b) (fun a b =>
CutW σ (fun c =>
packW [(5,a 5),(9,nI 0),(2,a 2),(3,a 3)] fun a =>
Lfp σ (fun d e f =>
pF (e 2) 8 fun g =>
oF (vLen .sl g f) fun g =>
bF .lss (e 9) g fun g =>
condW g (
gF (e 5) true (fun g =>
pF (e 2) 8 fun h =>
oF (vIndex 3 h (e 9)) fun i =>
oF (vLoad true 3 i f) fun j =>
pF (e 3) 8 fun k =>
oF (vIndex 3 k (e 9)) fun l =>
oF (vLoad true 3 l f) fun m =>
oF (vBin (some (.st [.str,.bool,.int])) .eql j m) fun n =>
g (lookE [(166,(.loc 2 8)),(167,(.v h)),(168,(.v (e 9))),(169,(.v i)),(170,(.v j)),(171,(.loc 3 8)),(172,(.v k)),(173,(.v (e 9))),(174,(.v l)),(175,(.v m)),(176,(.v n))]) f) f (fun g h =>
oF (vPick (e 5) (g 176).pv (.bool false)) fun g =>
bF .add (e 9) (nI 1) fun i =>
kF [(5,g),(9,i),(2,e 2),(3,e 3)] d h)) (
kF [(5,e 5),(2,e 2),(3,e 3)] c f)) a b) (fun a b =>
CutW σ (fun c =>
packW [(5,a 5),(10,nI 0),(2,a 2),(3,a 3)] fun a =>
Lfp σ (fun d e f =>
pF (e 2) 9 fun g =>
oF (vLen .sl g f) fun g =>
bF .lss (e 10) g fun g =>
condW g (
gF (e 5) true (fun g =>
pF (e 2) 9 fun h =>
oF (vIndex 2 h (e 10)) fun i =>
oF (vLoad true 2 i f) fun j =>
pF (e 3) 9 fun k =>
oF (vIndex 2 k (e 10)) fun l =>
oF (vLoad true 2 l f) fun m =>
oF (vBin (some (.st [.int,.int])) .eql j m) fun n =>
g (lookE [(187,(.loc 2 9)),(188,(.v h)),(189,(.v (e 10))),(190,(.v i)),(191,(.v j)),(192,(.loc 3 9)),(193,(.v k)),(194,(.v (e 10))),(195,(.v l)),(196,(.v m)),(197,(.v n))]) f) f (fun g h =>
oF (vPick (e 5) (g 197).pv (.bool false)) fun g =>
bF .add (e 10) (nI 1) fun i =>
kF [(5,g),(10,i),(2,e 2),(3,e 3)] d h)) (
kF [(5,e 5)] c f)) a b) (fun a b =>
wkR σ (a 5) b R)))))))))))))))) (pNR R)
theorem fn34_eq (W : CallP) (a0 a1 : PV) (σ : St) (R : Res → St → Prop) : bodyC (algP W) Tryz.prog annF 34 [a0,a1] σ R = fn34 Tryz.prog W a0 a1 σ R := by kernel_rfl
def fn77 (Pr : Program) (W : CallP) (a0 a1 : PV) (σ : St) (R : Res → St → Prop) : Prop :=
oF (opC.vBoxAny a0) fun a =>
if 0 < a.1 then newW a.1 a.2 σ fun a b =>
oF (opC.vBoxAny a1) fun c =>
oF (vLoad false 1 a b) fun d =>
pF c.2 0 fun e =>
callB W 142 [d,e,(.func 143 0 [a])] b (fun b b =>
oF (vLoad false 1 a b) fun d =>
pF c.2 1 fun e =>
oF (vLoad false 1 a b) fun f =>
callB W 146 [d,e,(.func 147 1 [f])] b (fun b b =>
oF (vLoad false 1 a b) fun d =>
pF c.2 2 fun e =>
callB W 148 [d,e,(.func 149 0 [a])] b (fun b b =>
oF (vLoad false 1 a b) fun d =>
pF c.2 3 fun e =>
oF (vLoad false 1 a b) fun f =>
callB W 151 [d,e,(.func 152 1 [f])] b (fun b b =>
oF (vLoad false 1 a b) fun d =>
pF c.2 4 fun e =>
oF (vLoad false 1 a b) fun f =>
callB W 153 [d,e,(.func 154 1 [f])] b (fun b b =>
oF (vLoad false 1 a b) fun d =>
pF c.2 5 fun e =>
oF (vLoad false 1 a b) fun f =>
callB W 146 [d,e,(.func 147 1 [f])] b (fun b b =>
oF (vLoad false 1 a b) fun d =>
pF c.2 6 fun e =>
oF (vLoad false 1 a b) fun f =>
callB W 146 [d,e,(.func 147 1 [f])] b (fun b b =>
oF (vLoad false 1 a b) fun d =>
pF c.2 7 fun e =>
oF (vLoad false 1 a b) fun f =>
callB W 155 [d,e,(.func 156 1 [f])] b (fun b b =>
oF (vLoad false 1 a b) fun d =>
pF c.2 8 fun e =>
callB W 157 [d,e,(.func 158 0 [a])] b (fun b b =>
oF (vLoad false 1 a b) fun d =>
pF c.2 9 fun c =>
callB W 160 [d,c,(.func 161 0 [a])] b (fun a a =>
wkR σ (.tuple []) a R) (pNR R)) (pNR R)) (pNR R)) (pNR R)) (pNR R)) (pNR R)) (pNR R)) (pNR R)) (pNR R)) (pNR R) else False
theorem fn77_eq (W : CallP) (a0 a1 : PV) (σ : St) (R : Res → St → Prop) : bodyC (algP W) Tryz.prog annF 77 [a0,a1] σ R = fn77 Tryz.prog W a0 a1 σ R := by kernel_rfl
def fn78 (Pr : Program) (W : CallP) (a0 : PV) (σ : St) (R : Res → St → Prop) : Prop :=
oF (vConv .u8 a0) fun a =>
bF .shr a0 (.int .u64 8) fun b =>
oF (vConv .u8 b) fun b =>
bF .shr a0 (.int .u64 16) fun c =>
oF (vConv .u8 c) fun c =>
bF .shr a0 (.int .u64 24) fun d =>
oF (vConv .u8 d) fun d =>
oF (vBuildSl 1 (List.replicate 4 (.int .u8 0)) [(0,a),(1,b),(2,c),(3,d)]) fun a =>
wkR σ (.list .full a) σ R
theorem fn78_eq (W : CallP) (a0 : PV) (σ : St) (R : Res → St → Prop) : bodyC (algP W) Tryz.prog annF 78 [a0] σ R = fn78 Tryz.prog W a0 σ R := by kernel_rfl
def fn79 (Pr : Program) (W : CallP) (a0 : PV) (σ : St) (R : Res → St → Prop) : Prop :=
CutW σ (fun a =>
oF (vLen .sl a0 σ) fun b =>
packW [(3,(.int .u32 2166136261)),(6,a0),(7,b),(8,nI 0)] fun b =>
Lfp σ (fun c d e =>
bF .lss (d 8) (d 7) fun f =>
condW f (
oF (vIndex 1 (d 6) (d 8)) fun f =>
oF (vLoad false 1 f e) fun f =>
oF (vConv .u32 f) fun f =>
bF .xor (d 3) f fun f =>
bF .mul f (.int .u32 16777619) fun f =>
bF .add (d 8) (nI 1) fun g =>
kF [(3,f),(6,d 6),(7,d 7),(8,g)] c e) (
kF [(3,d 3)] a e)) b σ) (fun a b =>
wkR σ (a 3) b R)
theorem fn79_eq (W : CallP) (a0 : PV) (σ : St) (R : Res → St → Prop) : bodyC (algP W) Tryz.prog annF 79 [a0] σ R = fn79 Tryz.prog W a0 σ R := by kernel_rfl
def fn86 (Pr : Program) (W : CallP) (a0 a1 : PV) (σ : St) (R : Res → St → Prop) : Prop :=
oF (vLen .sl a0 σ) fun a =>
oF (vLen .sl a1 σ) fun b =>
bF .neq a b fun a =>
condW a (
wkR σ (.bool false) σ R) (
CutW σ (fun a =>
packW [(0,a0),(1,a1),(5,nI 0)] fun b =>
Lfp σ (fun c d e =>
oF (vLen .sl (d 0) e) fun f =>
bF .lss (d 5) f fun f =>
condW f (
CutW σ (fun f =>
oF (vIndex 1 (d 0) (d 5)) fun g =>
oF (vField 0 g) fun g =>
oF (vLoad false 1 g e) fun g =>
oF (vLen .sl g e) fun g =>
oF (vIndex 1 (d 1) (d 5)) fun h =>
oF (vField 0 h) fun h =>
oF (vLoad false 1 h e) fun h =>
oF (vLen .sl h e) fun h =>
bF .neq g h fun g =>
condW g (
wkR σ (.bool false) e R) (
packW [(0,d 0),(1,d 1),(5,d 5),(6,nI 0)] fun d =>
Lfp σ (fun g h i =>
oF (vIndex 1 (h 0) (h 5)) fun j =>
oF (vField 0 j) fun j =>
oF (vLoad false 1 j i) fun j =>
oF (vLen .sl j i) fun j =>
bF .lss (h 6) j fun j =>
condW j (
oF (vIndex 1 (h 0) (h 5)) fun j =>
oF (vField 0 j) fun j =>
oF (vLoad false 1 j i) fun j =>
oF (vIndex 5 j (h 6)) fun j =>
oF (vLoad true 5 j i) fun j =>
oF (vIndex 1 (h 1) (h 5)) fun k =>
oF (vField 0 k) fun k =>
oF (vLoad false 1 k i) fun k =>
oF (vIndex 5 k (h 6)) fun k =>
oF (vLoad true 5 k i) fun k =>
oF (vBin (some (.st [.int,.int,.int,.int,.bool])) .neq j k) fun j =>
condW j (
wkR σ (.bool false) i R) (
bF .add (h 6) (nI 1) fun j =>
kF [(0,h 0),(1,h 1),(5,h 5),(6,j)] g i)) (
kF [(0,h 0),(1,h 1),(5,h 5)] f i)) d e)) (fun d f =>
bF .add (d 5) (nI 1) fun g =>
kF [(0,d 0),(1,d 1),(5,g)] c f)) (
kF [] a e)) b σ) (fun a a =>
wkR σ (.bool true) a R))
theorem fn86_eq (W : CallP) (a0 a1 : PV) (σ : St) (R : Res → St → Prop) : bodyC (algP W) Tryz.prog annF 86 [a0,a1] σ R = fn86 Tryz.prog W a0 a1 σ R := by kernel_rfl
def fn87 (Pr : Program) (W : CallP) (a0 a1 : PV) (σ : St) (R : Res → St → Prop) : Prop :=
oF (vLen .sl a0 σ) fun a =>
oF (vLen .sl a1 σ) fun b =>
bF .neq a b fun a =>
condW a (
wkR σ (.bool false) σ R) (
CutW σ (fun a =>
packW [(0,a0),(1,a1),(5,nI 0)] fun b =>
Lfp σ (fun c d e =>
oF (vLen .sl (d 0) e) fun f =>
bF .lss (d 5) f fun f =>
condW f (
oF (vIndex 1 (d 0) (d 5)) fun f =>
oF (vLoad false 1 f e) fun f =>
oF (vIndex 1 (d 1) (d 5)) fun g =>
oF (vLoad false 1 g e) fun g =>
callB W 28 [f,g] e (fun f g =>
oF (vUn .not f) fun f =>
condW f (
wkR σ (.bool false) g R) (
bF .add (d 5) (nI 1) fun f =>
kF [(0,d 0),(1,d 1),(5,f)] c g)) (pNR R)) (
kF [] a e)) b σ) (fun a a =>
wkR σ (.bool true) a R))
theorem fn87_eq (W : CallP) (a0 a1 : PV) (σ : St) (R : Res → St → Prop) : bodyC (algP W) Tryz.prog annF 87 [a0,a1] σ R = fn87 Tryz.prog W a0 a1 σ R := by kernel_rfl
def fn88 (Pr : Program) (W : CallP) (a0 a1 : PV) (σ : St) (R : Res → St → Prop) : Prop :=
oF (vLen .sl a0 σ) fun a =>
oF (vLen .sl a1 σ) fun b =>
bF .neq a b fun a =>
condW a (
wkR σ (.bool false) σ R) (
CutW σ (fun a =>
packW [(0,a0),(1,a1),(5,nI 0)] fun b =>
Lfp σ (fun c d e =>
oF (vLen .sl (d 0) e) fun f =>
bF .lss (d 5) f fun f =>
condW f (
CutW σ (fun f =>
((oF (vIndex 9 (d 0) (d 5)) fun g =>
oF (vLoad true 9 g e) fun g =>
oF (vIndex 9 (d 1) (d 5)) fun h =>
oF (vLoad true 9 h e) fun h =>
oF (vPut 9 (.agg [(nI 0),(nI 0),(nI 0),(nI 0),(nI 0),(nI 0),(nI 0),(nI 0),nL]) 0 g) fun g =>
oF (vPut 9 (.agg [(nI 0),(nI 0),(nI 0),(nI 0),(nI 0),(nI 0),(nI 0),(nI 0),nL]) 0 h) fun h =>
pF g 0 fun i =>
pF h 0 fun j =>
bF .neq i j fun i =>
gF i false (fun j =>
pF g 1 fun k =>
pF h 1 fun l =>
bF .neq k l fun m =>
j (lookE [(34,(.loc 6 1)),(35,(.v k)),(36,(.loc 7 1)),(37,(.v l)),(38,(.v m))]) e) e (fun j k =>
oF (vPick i (.bool true) (j 38).pv) fun i =>
gF i false (fun j =>
pF g 2 fun l =>
pF h 2 fun m =>
bF .neq l m fun n =>
j (lookE [(41,(.loc 6 2)),(42,(.v l)),(43,(.loc 7 2)),(44,(.v m)),(45,(.v n))]) k) k (fun j k =>
oF (vPick i (.bool true) (j 45).pv) fun i =>
gF i false (fun j =>
pF g 3 fun l =>
pF h 3 fun m =>
bF .neq l m fun n =>
j (lookE [(48,(.loc 6 3)),(49,(.v l)),(50,(.loc 7 3)),(51,(.v m)),(52,(.v n))]) k) k (fun j k =>
oF (vPick i (.bool true) (j 52).pv) fun i =>
gF i false (fun j =>
pF g 4 fun l =>
pF h 4 fun m =>
bF .neq l m fun n =>
j (lookE [(55,(.loc 6 4)),(56,(.v l)),(57,(.loc 7 4)),(58,(.v m)),(59,(.v n))]) k) k (fun j k =>
oF (vPick i (.bool true) (j 59).pv) fun i =>
gF i false (fun j =>
pF g 5 fun l =>
pF h 5 fun m =>
bF .neq l m fun n =>
j (lookE [(62,(.loc 6 5)),(63,(.v l)),(64,(.loc 7 5)),(65,(.v m)),(66,(.v n))]) k) k (fun j k =>
oF (vPick i (.bool true) (j 66).pv) fun i =>
gF i false (fun j =>
pF g 6 fun l =>
pF h 6 fun m =>
bF .neq l m fun n =>
j (lookE [(69,(.loc 6 6)),(70,(.v l)),(71,(.loc 7 6)),(72,(.v m)),(73,(.v n))]) k) k (fun j k =>
oF (vPick i (.bool true) (j 73).pv) fun i =>
gF i false (fun j =>
pF g 7 fun l =>
pF h 7 fun m =>
bF .neq l m fun n =>
j (lookE [(76,(.loc 6 7)),(77,(.v l)),(78,(.loc 7 7)),(79,(.v m)),(80,(.v n))]) k) k (fun j k =>
oF (vPick i (.bool true) (j 80).pv) fun i =>
gF i false (fun j =>
pF g 8 fun l =>
oF (vLen .sl l k) fun m =>
pF h 8 fun n =>
oF (vLen .sl n k) fun o =>
bF .neq m o fun p =>
j (lookE [(83,(.loc 6 8)),(84,(.v l)),(85,(.v m)),(86,(.loc 7 8)),(87,(.v n)),(88,(.v o)),(89,(.v p))]) k) k (fun j k =>
oF (vPick i (.bool true) (j 89).pv) fun i =>
condW i (
wkR σ (.bool false) k R) (
packW [(0,d 0),(1,d 1),(5,d 5),(8,nI 0),(6,g),(7,h)] fun g =>
Lfp σ (fun h i j =>
pF (i 6) 8 fun l =>
oF (vLen .sl l j) fun l =>
bF .lss (i 8) l fun l =>
condW l (
pF (i 6) 8 fun l =>
oF (vIndex 3 l (i 8)) fun l =>
oF (vLoad true 3 l j) fun l =>
pF (i 7) 8 fun m =>
oF (vIndex 3 m (i 8)) fun m =>
oF (vLoad true 3 m j) fun m =>
oF (vBin (some (.st [.int,.int,.int])) .neq l m) fun l =>
condW l (
wkR σ (.bool false) j R) (
bF .add (i 8) (nI 1) fun l =>
kF [(0,i 0),(1,i 1),(5,i 5),(8,l),(6,i 6),(7,i 7)] h j)) (
kF [(0,i 0),(1,i 1),(5,i 5)] f j)) g k)))))))))) ∧ (oF (vIndex 9 (d 0) (d 5)) fun g =>
oF (vLoad true 9 g e) fun g =>
oF (vIndex 9 (d 1) (d 5)) fun h =>
oF (vLoad true 9 h e) fun h =>
oF (vPut 9 (.agg [(nI 0),(nI 0),(nI 0),(nI 0),(nI 0),(nI 0),(nI 0),(nI 0),nL]) 0 g) fun g =>
oF (vPut 9 (.agg [(nI 0),(nI 0),(nI 0),(nI 0),(nI 0),(nI 0),(nI 0),(nI 0),nL]) 0 h) fun h =>
pF g 0 fun i =>
pF h 0 fun j =>
bF .neq i j fun i =>
gF i false (fun j =>
pF g 1 fun k =>
pF h 1 fun l =>
bF .neq k l fun m =>
j (lookE [(34,(.loc 6 1)),(35,(.v k)),(36,(.loc 7 1)),(37,(.v l)),(38,(.v m))]) e) e (fun j k =>
oF (vPick i (.bool true) (j 38).pv) fun i =>
gF i false (fun j =>
pF g 2 fun l =>
pF h 2 fun m =>
bF .neq l m fun n =>
j (lookE [(41,(.loc 6 2)),(42,(.v l)),(43,(.loc 7 2)),(44,(.v m)),(45,(.v n))]) k) k (fun j k =>
oF (vPick i (.bool true) (j 45).pv) fun i =>
gF i false (fun j =>
pF g 3 fun l =>
pF h 3 fun m =>
bF .neq l m fun n =>
j (lookE [(48,(.loc 6 3)),(49,(.v l)),(50,(.loc 7 3)),(51,(.v m)),(52,(.v n))]) k) k (fun j k =>
oF (vPick i (.bool true) (j 52).pv) fun i =>
gF i false (fun j =>
pF g 4 fun l =>
pF h 4 fun m =>
bF .neq l m fun n =>
j (lookE [(55,(.loc 6 4)),(56,(.v l)),(57,(.loc 7 4)),(58,(.v m)),(59,(.v n))]) k) k (fun j k =>
oF (vPick i (.bool true) (j 59).pv) fun i =>
gF i false (fun j =>
pF g 5 fun l =>
pF h 5 fun m =>
bF .neq l m fun n =>
j (lookE [(62,(.loc 6 5)),(63,(.v l)),(64,(.loc 7 5)),(65,(.v m)),(66,(.v n))]) k) k (fun j k =>
oF (vPick i (.bool true) (j 66).pv) fun i =>
gF i false (fun j =>
pF g 6 fun l =>
pF h 6 fun m =>
bF .neq l m fun n =>
j (lookE [(69,(.loc 6 6)),(70,(.v l)),(71,(.loc 7 6)),(72,(.v m)),(73,(.v n))]) k) k (fun j k =>
oF (vPick i (.bool true) (j 73).pv) fun i =>
gF i false (fun j =>
pF g 7 fun l =>
pF h 7 fun m =>
bF .neq l m fun n =>
j (lookE [(76,(.loc 6 7)),(77,(.v l)),(78,(.loc 7 7)),(79,(.v m)),(80,(.v n))]) k) k (fun j k =>
oF (vPick i (.bool true) (j 80).pv) fun i =>
gF i false (fun j =>
pF g 8 fun l =>
oF (vLen .sl l k) fun m =>
pF h 8 fun n =>
oF (vLen .sl n k) fun o =>
bF .neq m o fun p =>
j (lookE [(83,(.loc 6 8)),(84,(.v l)),(85,(.v m)),(86,(.loc 7 8)),(87,(.v n)),(88,(.v o)),(89,(.v p))]) k) k (fun j k =>
oF (vPick i (.bool true) (j 89).pv) fun i =>
condW i (
wkR σ (.bool false) k R) (
packW [(0,d 0),(1,d 1),(5,d 5),(8,nI 0),(6,g),(7,h)] fun d =>
Lfp σ (fun g h i =>
pF (h 6) 8 fun j =>
oF (vLen .sl j i) fun j =>
bF .lss (h 8) j fun j =>
condW j (
pF (h 6) 8 fun j =>
oF (vIndex 3 j (h 8)) fun j =>
oF (vLoad true 3 j i) fun j =>
pF (h 7) 8 fun l =>
oF (vIndex 3 l (h 8)) fun l =>
oF (vLoad true 3 l i) fun l =>
oF (vBin (some (.st [.int,.int,.int])) .neq j l) fun j =>
condW j (
wkR σ (.bool false) i R) (
bF .add (h 8) (nI 1) fun j =>
kF [(0,h 0),(1,h 1),(5,h 5),(8,j),(6,h 6),(7,h 7)] g i)) (
kF [(0,h 0),(1,h 1),(5,h 5)] f i)) d k)))))))))))) (fun d f =>
bF .add (d 5) (nI 1) fun g =>
kF [(0,d 0),(1,d 1),(5,g)] c f)) (
kF [] a e)) b σ) (fun a a =>
wkR σ (.bool true) a R))
theorem fn88_eq (W : CallP) (a0 a1 : PV) (σ : St) (R : Res → St → Prop) : bodyC (algP W) Tryz.prog annF 88 [a0,a1] σ R = fn88 Tryz.prog W a0 a1 σ R := by kernel_rfl
def fn142 (Pr : Program) (W : CallP) (a0 a1 a2 : PV) (σ : St) (R : Res → St → Prop) : Prop :=
oF (vLen .sl a1 σ) fun a =>
callB W 150 [a0,a] σ (fun a a =>
oF (vLen .sl a1 a) fun b =>
packW [(2,a2),(12,a1),(13,b),(14,nI 0)] fun b =>
Lfp σ (fun c d e =>
bF .lss (d 14) (d 13) fun f =>
condW f (
oF (vIndex 1 (d 12) (d 14)) fun f =>
oF (vLoad true 1 f e) fun f =>
uF (.agg [nL]) 0 f fun f =>
oF (vPart true 1 f 0) fun f =>
callG (algP W) Pr false (d 2) [f] e (fun f f =>
bF .add (d 14) (nI 1) fun g =>
kF [(2,d 2),(12,d 12),(13,d 13),(14,g)] c f) (pNR R)) (
wkR σ (.tuple []) e R)) b a) (pNR R)
theorem fn142_eq (W : CallP) (a0 a1 a2 : PV) (σ : St) (R : Res → St → Prop) : bodyC (algP W) Tryz.prog annF 142 [a0,a1,a2] σ R = fn142 Tryz.prog W a0 a1 a2 σ R := by kernel_rfl
def fn143 (Pr : Program) (W : CallP) (a0 a1 : PV) (σ : St) (R : Res → St → Prop) : Prop :=
oF (opC.vBoxAny a0) fun a =>
oF (vLoad false 1 a1 σ) fun b =>
pF a.2 0 fun a =>
oF (vLoad false 1 a1 σ) fun c =>
callB W 144 [b,a,(.func 145 1 [c])] σ (fun a a =>
wkR σ (.tuple []) a R) (pNR R)
theorem fn143_eq (W : CallP) (a0 a1 : PV) (σ : St) (R : Res → St → Prop) : bodyC (algP W) Tryz.prog annF 143 [a0,a1] σ R = fn143 Tryz.prog W a0 a1 σ R := by kernel_rfl
def fn144 (Pr : Program) (W : CallP) (a0 a1 a2 : PV) (σ : St) (R : Res → St → Prop) : Prop :=
oF (vLen .sl a1 σ) fun a =>
callB W 150 [a0,a] σ (fun a a =>
oF (vLen .sl a1 a) fun b =>
packW [(2,a2),(12,a1),(13,b),(14,nI 0)] fun b =>
Lfp σ (fun c d e =>
bF .lss (d 14) (d 13) fun f =>
condW f (
oF (vIndex 5 (d 12) (d 14)) fun f =>
oF (vLoad true 5 f e) fun f =>
oF (vPut 5 (.agg [(nI 0),(nI 0),(nI 0),(nI 0),(.bool false)]) 0 f) fun f =>
oF (vPart true 5 f 0) fun f =>
callG (algP W) Pr false (d 2) [f] e (fun f f =>
bF .add (d 14) (nI 1) fun g =>
kF [(2,d 2),(12,d 12),(13,d 13),(14,g)] c f) (pNR R)) (
wkR σ (.tuple []) e R)) b a) (pNR R)
theorem fn144_eq (W : CallP) (a0 a1 a2 : PV) (σ : St) (R : Res → St → Prop) : bodyC (algP W) Tryz.prog annF 144 [a0,a1,a2] σ R = fn144 Tryz.prog W a0 a1 a2 σ R := by kernel_rfl
def fn145 (Pr : Program) (W : CallP) (a0 a1 : PV) (σ : St) (R : Res → St → Prop) : Prop :=
oF (opC.vBoxAny a1) fun a =>
pF a.2 0 fun b =>
callB W 150 [a0,b] σ (fun b b =>
pF a.2 1 fun c =>
callB W 150 [a0,c] b (fun b b =>
pF a.2 2 fun c =>
callB W 150 [a0,c] b (fun b b =>
pF a.2 3 fun c =>
callB W 150 [a0,c] b (fun b b =>
pF a.2 4 fun a =>
callB W 159 [a0,a] b (fun a a =>
wkR σ (.tuple []) a R) (pNR R)) (pNR R)) (pNR R)) (pNR R)) (pNR R)
theorem fn145_eq (W : CallP) (a0 a1 : PV) (σ : St) (R : Res → St → Prop) : bodyC (algP W) Tryz.prog annF 145 [a0,a1] σ R = fn145 Tryz.prog W a0 a1 σ R := by kernel_rfl
def fn146 (Pr : Program) (W : CallP) (a0 a1 a2 : PV) (σ : St) (R : Res → St → Prop) : Prop :=
oF (vLen .sl a1 σ) fun a =>
callB W 150 [a0,a] σ (fun a a =>
oF (vLen .sl a1 a) fun b =>
packW [(2,a2),(12,a1),(13,b),(14,nI 0)] fun b =>
Lfp σ (fun c d e =>
bF .lss (d 14) (d 13) fun f =>
condW f (
oF (vIndex 1 (d 12) (d 14)) fun f =>
oF (vLoad false 1 f e) fun f =>
callG (algP W) Pr false (d 2) [f] e (fun f f =>
bF .add (d 14) (nI 1) fun g =>
kF [(2,d 2),(12,d 12),(13,d 13),(14,g)] c f) (pNR R)) (
wkR σ (.tuple []) e R)) b a) (pNR R)
theorem fn146_eq (W : CallP) (a0 a1 a2 : PV) (σ : St) (R : Res → St → Prop) : bodyC (algP W) Tryz.prog annF 146 [a0,a1,a2] σ R = fn146 Tryz.prog W a0 a1 a2 σ R := by kernel_rfl
def fn147 (Pr : Program) (W : CallP) (a0 a1 : PV) (σ : St) (R : Res → St → Prop) : Prop :=
callB W 246 [a0,a1,(.func 150 1 [a0])] σ (fun a a =>
wkR σ (.tuple []) a R) (pNR R)
theorem fn147_eq (W : CallP) (a0 a1 : PV) (σ : St) (R : Res → St → Prop) : bodyC (algP W) Tryz.prog annF 147 [a0,a1] σ R = fn147 Tryz.prog W a0 a1 σ R := by kernel_rfl
def fn148 (Pr : Program) (W : CallP) (a0 a1 a2 : PV) (σ : St) (R : Res → St → Prop) : Prop :=
oF (vLen .sl a1 σ) fun a =>
callB W 150 [a0,a] σ (fun a a =>
oF (vLen .sl a1 a) fun b =>
packW [(2,a2),(12,a1),(13,b),(14,nI 0)] fun b =>
Lfp σ (fun c d e =>
bF .lss (d 14) (d 13) fun f =>
condW f (
oF (vIndex 2 (d 12) (d 14)) fun f =>
oF (vLoad true 2 f e) fun f =>
oF (vPut 2 (.agg [(nI 0),(nI 0)]) 0 f) fun f =>
oF (vPart true 2 f 0) fun f =>
callG (algP W) Pr false (d 2) [f] e (fun f f =>
bF .add (d 14) (nI 1) fun g =>
kF [(2,d 2),(12,d 12),(13,d 13),(14,g)] c f) (pNR R)) (
wkR σ (.tuple []) e R)) b a) (pNR R)
theorem fn148_eq (W : CallP) (a0 a1 a2 : PV) (σ : St) (R : Res → St → Prop) : bodyC (algP W) Tryz.prog annF 148 [a0,a1,a2] σ R = fn148 Tryz.prog W a0 a1 a2 σ R := by kernel_rfl
def fn149 (Pr : Program) (W : CallP) (a0 a1 : PV) (σ : St) (R : Res → St → Prop) : Prop :=
oF (opC.vBoxAny a0) fun a =>
oF (vLoad false 1 a1 σ) fun b =>
pF a.2 0 fun c =>
callB W 150 [b,c] σ (fun b b =>
oF (vLoad false 1 a1 b) fun c =>
pF a.2 1 fun a =>
callB W 150 [c,a] b (fun a a =>
wkR σ (.tuple []) a R) (pNR R)) (pNR R)
theorem fn149_eq (W : CallP) (a0 a1 : PV) (σ : St) (R : Res → St → Prop) : bodyC (algP W) Tryz.prog annF 149 [a0,a1] σ R = fn149 Tryz.prog W a0 a1 σ R := by kernel_rfl
def fn150 (Pr : Program) (W : CallP) (a0 a1 : PV) (σ : St) (R : Res → St → Prop) : Prop :=
callB W 247 [a0,a1] σ (fun a a =>
wkR σ (.tuple []) a R) (pNR R)
theorem fn150_eq (W : CallP) (a0 a1 : PV) (σ : St) (R : Res → St → Prop) : bodyC (algP W) Tryz.prog annF 150 [a0,a1] σ R = fn150 Tryz.prog W a0 a1 σ R := by kernel_rfl
def fn151 (Pr : Program) (W : CallP) (a0 a1 a2 : PV) (σ : St) (R : Res → St → Prop) : Prop :=
oF (vLen .sl a1 σ) fun a =>
callB W 150 [a0,a] σ (fun a a =>
oF (vLen .sl a1 a) fun b =>
packW [(2,a2),(12,a1),(13,b),(14,nI 0)] fun b =>
Lfp σ (fun c d e =>
bF .lss (d 14) (d 13) fun f =>
condW f (
oF (vIndex 9 (d 12) (d 14)) fun f =>
oF (vLoad true 9 f e) fun f =>
oF (vPut 9 (.agg [(nI 0),(nI 0),(nI 0),(nI 0),(nI 0),(nI 0),(nI 0),(nI 0),nL]) 0 f) fun f =>
oF (vPart true 9 f 0) fun f =>
callG (algP W) Pr false (d 2) [f] e (fun f f =>
bF .add (d 14) (nI 1) fun g =>
kF [(2,d 2),(12,d 12),(13,d 13),(14,g)] c f) (pNR R)) (
wkR σ (.tuple []) e R)) b a) (pNR R)
theorem fn151_eq (W : CallP) (a0 a1 a2 : PV) (σ : St) (R : Res → St → Prop) : bodyC (algP W) Tryz.prog annF 151 [a0,a1,a2] σ R = fn151 Tryz.prog W a0 a1 a2 σ R := by kernel_rfl
def fn152 (Pr : Program) (W : CallP) (a0 a1 : PV) (σ : St) (R : Res → St → Prop) : Prop :=
oF (opC.vBoxAny a0) fun a =>
if 0 < a.1 then newW a.1 a.2 σ fun a b =>
oF (opC.vBoxAny a1) fun c =>
CutW σ (fun d =>
pF c.2 0 fun e =>
pF c.2 1 fun f =>
pF c.2 2 fun g =>
pF c.2 3 fun h =>
pF c.2 4 fun i =>
pF c.2 5 fun j =>
pF c.2 6 fun k =>
pF c.2 7 fun l =>
oF (vBuildSl 1 (List.replicate 8 (nI 0)) [(0,e),(1,f),(2,g),(3,h),(4,i),(5,j),(6,k),(7,l)]) fun e =>
oF (vLen .sl (.list .full e) b) fun f =>
packW [(2,a),(22,(.list .full e)),(23,f),(24,nI 0),(3,c.2)] fun a =>
Lfp σ (fun c e f =>
bF .lss (e 24) (e 23) fun g =>
condW g (
oF (vIndex 1 (e 22) (e 24)) fun g =>
oF (vLoad false 1 g f) fun g =>
oF (vLoad false 1 (e 2) f) fun h =>
callB W 150 [h,g] f (fun g g =>
bF .add (e 24) (nI 1) fun h =>
kF [(2,e 2),(22,e 22),(23,e 23),(24,h),(3,e 3)] c g) (pNR R)) (
kF [(2,e 2),(3,e 3)] d f)) a b) (fun a b =>
oF (vLoad false 1 (a 2) b) fun c =>
pF (a 3) 8 fun d =>
callB W 248 [c,d,(.func 249 0 [(a 2)])] b (fun a a =>
wkR σ (.tuple []) a R) (pNR R)) else False
theorem fn152_eq (W : CallP) (a0 a1 : PV) (σ : St) (R : Res → St → Prop) : bodyC (algP W) Tryz.prog annF 152 [a0,a1] σ R = fn152 Tryz.prog W a0 a1 σ R := by kernel_rfl
def fn153 (Pr : Program) (W : CallP) (a0 a1 a2 : PV) (σ : St) (R : Res → St → Prop) : Prop :=
oF (vLen .sl a1 σ) fun a =>
callB W 150 [a0,a] σ (fun a a =>
oF (vLen .sl a1 a) fun b =>
packW [(2,a2),(12,a1),(13,b),(14,nI 0)] fun b =>
Lfp σ (fun c d e =>
bF .lss (d 14) (d 13) fun f =>
condW f (
oF (vIndex 12 (d 12) (d 14)) fun f =>
oF (vLoad true 12 f e) fun f =>
oF (vPut 12 (.agg [(nI 0),(nI 0),(nI 0),(nI 0),(nI 0),(nI 0),(nI 0),(nI 0),(nI 0),(nI 0),(nI 0),(nI 0)]) 0 f) fun f =>
oF (vPart true 12 f 0) fun f =>
callG (algP W) Pr false (d 2) [f] e (fun f f =>
bF .add (d 14) (nI 1) fun g =>
kF [(2,d 2),(12,d 12),(13,d 13),(14,g)] c f) (pNR R)) (
wkR σ (.tuple []) e R)) b a) (pNR R)
theorem fn153_eq (W : CallP) (a0 a1 a2 : PV) (σ : St) (R : Res → St → Prop) : bodyC (algP W) Tryz.prog annF 153 [a0,a1,a2] σ R = fn153 Tryz.prog W a0 a1 a2 σ R := by kernel_rfl
def fn154 (Pr : Program) (W : CallP) (a0 a1 : PV) (σ : St) (R : Res → St → Prop) : Prop :=
oF (opC.vBoxAny a1) fun a =>
pF a.2 0 fun b =>
callB W 150 [a0,b] σ (fun b b =>
CutW σ (fun c =>
oF (vPart true 3 a.2 1) fun d =>
oF (vPart true 3 a.2 4) fun e =>
oF (vPart true 3 a.2 7) fun f =>
oF (vBuildSl 3 (List.replicate 3 (.agg [(nI 0),(nI 0),(nI 0)])) [(0,d),(1,e),(2,f)]) fun d =>
oF (vLen .sl (.list .full d) b) fun e =>
packW [(0,a0),(16,(.list .full d)),(17,e),(18,nI 0),(3,a.2)] fun a =>
Lfp σ (fun d e f =>
bF .lss (e 18) (e 17) fun g =>
condW g (
oF (vIndex 3 (e 16) (e 18)) fun g =>
oF (vLoad true 3 g f) fun g =>
oF (vPut 3 (.agg [(nI 0),(nI 0),(nI 0)]) 0 g) fun g =>
pF g 0 fun h =>
callB W 150 [(e 0),h] f (fun h h =>
pF g 1 fun i =>
callB W 150 [(e 0),i] h (fun h h =>
pF g 2 fun g =>
callB W 150 [(e 0),g] h (fun g g =>
bF .add (e 18) (nI 1) fun h =>
kF [(0,e 0),(16,e 16),(17,e 17),(18,h),(3,e 3)] d g) (pNR R)) (pNR R)) (pNR R)) (
kF [(0,e 0),(3,e 3)] c f)) a b) (fun a b =>
pF (a 3) 10 fun c =>
callB W 247 [(a 0),c] b (fun b b =>
pF (a 3) 11 fun c =>
callB W 150 [(a 0),c] b (fun a a =>
wkR σ (.tuple []) a R) (pNR R)) (pNR R))) (pNR R)
theorem fn154_eq (W : CallP) (a0 a1 : PV) (σ : St) (R : Res → St → Prop) : bodyC (algP W) Tryz.prog annF 154 [a0,a1] σ R = fn154 Tryz.prog W a0 a1 σ R := by kernel_rfl
def fn155 (Pr : Program) (W : CallP) (a0 a1 a2 : PV) (σ : St) (R : Res → St → Prop) : Prop :=
oF (vLen .sl a1 σ) fun a =>
callB W 150 [a0,a] σ (fun a a =>
oF (vLen .sl a1 a) fun b =>
packW [(2,a2),(12,a1),(13,b),(14,nI 0)] fun b =>
Lfp σ (fun c d e =>
bF .lss (d 14) (d 13) fun f =>
condW f (
oF (vIndex 1 (d 12) (d 14)) fun f =>
oF (vLoad false 1 f e) fun f =>
callG (algP W) Pr false (d 2) [f] e (fun f f =>
bF .add (d 14) (nI 1) fun g =>
kF [(2,d 2),(12,d 12),(13,d 13),(14,g)] c f) (pNR R)) (
wkR σ (.tuple []) e R)) b a) (pNR R)
theorem fn155_eq (W : CallP) (a0 a1 a2 : PV) (σ : St) (R : Res → St → Prop) : bodyC (algP W) Tryz.prog annF 155 [a0,a1,a2] σ R = fn155 Tryz.prog W a0 a1 a2 σ R := by kernel_rfl
def fn156 (Pr : Program) (W : CallP) (a0 a1 : PV) (σ : St) (R : Res → St → Prop) : Prop :=
oF (vLen .str a1 σ) fun a =>
callB W 150 [a0,a] σ (fun a a =>
lF a0 0 a fun b =>
bindS (vAppendT 23 1 1 b a1 a) fun a b =>
sF a0 0 a b fun a =>
wkR σ (.tuple []) a R) (pNR R)
theorem fn156_eq (W : CallP) (a0 a1 : PV) (σ : St) (R : Res → St → Prop) : bodyC (algP W) Tryz.prog annF 156 [a0,a1] σ R = fn156 Tryz.prog W a0 a1 σ R := by kernel_rfl
def fn157 (Pr : Program) (W : CallP) (a0 a1 a2 : PV) (σ : St) (R : Res → St → Prop) : Prop :=
oF (vLen .sl a1 σ) fun a =>
callB W 150 [a0,a] σ (fun a a =>
oF (vLen .sl a1 a) fun b =>
packW [(2,a2),(12,a1),(13,b),(14,nI 0)] fun b =>
Lfp σ (fun c d e =>
bF .lss (d 14) (d 13) fun f =>
condW f (
oF (vIndex 3 (d 12) (d 14)) fun f =>
oF (vLoad true 3 f e) fun f =>
oF (vPut 3 (.agg [(.str []),(.bool false),(nI 0)]) 0 f) fun f =>
oF (vPart true 3 f 0) fun f =>
callG (algP W) Pr false (d 2) [f] e (fun f f =>
bF .add (d 14) (nI 1) fun g =>
kF [(2,d 2),(12,d 12),(13,d 13),(14,g)] c f) (pNR R)) (
wkR σ (.tuple []) e R)) b a) (pNR R)
theorem fn157_eq (W : CallP) (a0 a1 a2 : PV) (σ : St) (R : Res → St → Prop) : bodyC (algP W) Tryz.prog annF 157 [a0,a1,a2] σ R = fn157 Tryz.prog W a0 a1 a2 σ R := by kernel_rfl
def fn158 (Pr : Program) (W : CallP) (a0 a1 : PV) (σ : St) (R : Res → St → Prop) : Prop :=
oF (opC.vBoxAny a0) fun a =>
oF (vLoad false 1 a1 σ) fun b =>
pF a.2 0 fun c =>
callB W 156 [b,c] σ (fun b b =>
oF (vLoad false 1 a1 b) fun c =>
pF a.2 1 fun d =>
callB W 159 [c,d] b (fun b b =>
oF (vLoad false 1 a1 b) fun c =>
pF a.2 2 fun a =>
callB W 150 [c,a] b (fun a a =>
wkR σ (.tuple []) a R) (pNR R)) (pNR R)) (pNR R)
theorem fn158_eq (W : CallP) (a0 a1 : PV) (σ : St) (R : Res → St → Prop) : bodyC (algP W) Tryz.prog annF 158 [a0,a1] σ R = fn158 Tryz.prog W a0 a1 σ R := by kernel_rfl
def fn159 (Pr : Program) (W : CallP) (a0 a1 : PV) (σ : St) (R : Res → St → Prop) : Prop :=
condW a1 (
callB W 150 [a0,(nI 1)] σ (fun a a =>
wkR σ (.tuple []) a R) (pNR R)) (
callB W 150 [a0,(nI 0)] σ (fun a a =>
wkR σ (.tuple []) a R) (pNR R))
theorem fn159_eq (W : CallP) (a0 a1 : PV) (σ : St) (R : Res → St → Prop) : bodyC (algP W) Tryz.prog annF 159 [a0,a1] σ R = fn159 Tryz.prog W a0 a1 σ R := by kernel_rfl
def fn160 (Pr : Program) (W : CallP) (a0 a1 a2 : PV) (σ : St) (R : Res → St → Prop) : Prop :=
oF (vLen .sl a1 σ) fun a =>
callB W 150 [a0,a] σ (fun a a =>
oF (vLen .sl a1 a) fun b =>
packW [(2,a2),(12,a1),(13,b),(14,nI 0)] fun b =>
Lfp σ (fun c d e =>
bF .lss (d 14) (d 13) fun f =>
condW f (
oF (vIndex 2 (d 12) (d 14)) fun f =>
oF (vLoad true 2 f e) fun f =>
oF (vPut 2 (.agg [(nI 0),(nI 0)]) 0 f) fun f =>
oF (vPart true 2 f 0) fun f =>
callG (algP W) Pr false (d 2) [f] e (fun f f =>
bF .add (d 14) (nI 1) fun g =>
kF [(2,d 2),(12,d 12),(13,d 13),(14,g)] c f) (pNR R)) (
wkR σ (.tuple []) e R)) b a) (pNR R)
theorem fn160_eq (W : CallP) (a0 a1 a2 : PV) (σ : St) (R : Res → St → Prop) : bodyC (algP W) Tryz.prog annF 160 [a0,a1,a2] σ R = fn160 Tryz.prog W a0 a1 a2 σ R := by kernel_rfl
def fn161 (Pr : Program) (W : CallP) (a0 a1 : PV) (σ : St) (R : Res → St → Prop) : Prop :=
oF (opC.vBoxAny a0) fun a =>
oF (vLoad false 1 a1 σ) fun b =>
pF a.2 0 fun c =>
callB W 150 [b,c] σ (fun b b =>
oF (vLoad false 1 a1 b) fun c =>
pF a.2 1 fun a =>
callB W 150 [c,a] b (fun a a =>
wkR σ (.tuple []) a R) (pNR R)) (pNR R)
theorem fn161_eq (W : CallP) (a0 a1 : PV) (σ : St) (R : Res → St → Prop) : bodyC (algP W) Tryz.prog annF 161 [a0,a1] σ R = fn161 Tryz.prog W a0 a1 σ R := by kernel_rfl
def fn246 (Pr : Program) (W : CallP) (a0 a1 a2 : PV) (σ : St) (R : Res → St → Prop) : Prop :=
oF (vLen .sl a1 σ) fun a =>
callB W 150 [a0,a] σ (fun a a =>
oF (vLen .sl a1 a) fun b =>
packW [(2,a2),(12,a1),(13,b),(14,nI 0)] fun b =>
Lfp σ (fun c d e =>
bF .lss (d 14) (d 13) fun f =>
condW f (
oF (vIndex 1 (d 12) (d 14)) fun f =>
oF (vLoad false 1 f e) fun f =>
callG (algP W) Pr false (d 2) [f] e (fun f f =>
bF .add (d 14) (nI 1) fun g =>
kF [(2,d 2),(12,d 12),(13,d 13),(14,g)] c f) (pNR R)) (
wkR σ (.tuple []) e R)) b a) (pNR R)
theorem fn246_eq (W : CallP) (a0 a1 a2 : PV) (σ : St) (R : Res → St → Prop) : bodyC (algP W) Tryz.prog annF 246 [a0,a1,a2] σ R = fn246 Tryz.prog W a0 a1 a2 σ R := by kernel_rfl
def fn247 (Pr : Program) (W : CallP) (a0 a1 : PV) (σ : St) (R : Res → St → Prop) : Prop :=
oF (vConv .u64 a1) fun a =>
bF .shl a (.int .u64 1) fun a =>
CutW σ (fun b =>
bF .lss a1 (nI 0) fun c =>
condW c (
oF (vUn .xor a) fun c =>
kF [(0,a0),(4,c)] b σ) (
kF [(0,a0),(4,a)] b σ)) (fun a b =>
CutW σ (fun c =>
packW [(0,a 0),(4,a 4)] fun a =>
Lfp σ (fun d e f =>
bF .geq (e 4) (.int .u64 128) fun g =>
condW g (
lF (e 0) 0 f fun g =>
oF (vConv .u8 (e 4)) fun h =>
bF .or h (.int .u8 128) fun h =>
mF 1 (.int .u8 0) h fun h =>
bindS (vAppendT 23 1 1 g (.list .full h) f) fun g h =>
sF (e 0) 0 g h fun g =>
bF .shr (e 4) (.int .u64 7) fun h =>
kF [(0,e 0),(4,h)] d g) (
kF [(0,e 0),(4,e 4)] c f)) a b) (fun a b =>
lF (a 0) 0 b fun c =>
oF (vConv .u8 (a 4)) fun d =>
mF 1 (.int .u8 0) d fun d =>
bindS (vAppendT 23 1 1 c (.list .full d) b) fun b c =>
sF (a 0) 0 b c fun a =>
wkR σ (.tuple []) a R))
theorem fn247_eq (W : CallP) (a0 a1 : PV) (σ : St) (R : Res → St → Prop) : bodyC (algP W) Tryz.prog annF 247 [a0,a1] σ R = fn247 Tryz.prog W a0 a1 σ R := by kernel_rfl
def fn248 (Pr : Program) (W : CallP) (a0 a1 a2 : PV) (σ : St) (R : Res → St → Prop) : Prop :=
oF (vLen .sl a1 σ) fun a =>
callB W 150 [a0,a] σ (fun a a =>
oF (vLen .sl a1 a) fun b =>
packW [(2,a2),(12,a1),(13,b),(14,nI 0)] fun b =>
Lfp σ (fun c d e =>
bF .lss (d 14) (d 13) fun f =>
condW f (
oF (vIndex 3 (d 12) (d 14)) fun f =>
oF (vLoad true 3 f e) fun f =>
oF (vPut 3 (.agg [(nI 0),(nI 0),(nI 0)]) 0 f) fun f =>
oF (vPart true 3 f 0) fun f =>
callG (algP W) Pr false (d 2) [f] e (fun f f =>
bF .add (d 14) (nI 1) fun g =>
kF [(2,d 2),(12,d 12),(13,d 13),(14,g)] c f) (pNR R)) (
wkR σ (.tuple []) e R)) b a) (pNR R)
theorem fn248_eq (W : CallP) (a0 a1 a2 : PV) (σ : St) (R : Res → St → Prop) : bodyC (algP W) Tryz.prog annF 248 [a0,a1,a2] σ R = fn248 Tryz.prog W a0 a1 a2 σ R := by kernel_rfl
def fn249 (Pr : Program) (W : CallP) (a0 a1 : PV) (σ : St) (R : Res → St → Prop) : Prop :=
oF (opC.vBoxAny a0) fun a =>
oF (vLoad false 1 a1 σ) fun b =>
pF a.2 0 fun c =>
callB W 150 [b,c] σ (fun b b =>
oF (vLoad false 1 a1 b) fun c =>
pF a.2 1 fun d =>
callB W 150 [c,d] b (fun b b =>
oF (vLoad false 1 a1 b) fun c =>
pF a.2 2 fun a =>
callB W 150 [c,a] b (fun a a =>
wkR σ (.tuple []) a R) (pNR R)) (pNR R)) (pNR R)
theorem fn249_eq (W : CallP) (a0 a1 : PV) (σ : St) (R : Res → St → Prop) : bodyC (algP W) Tryz.prog annF 249 [a0,a1] σ R = fn249 Tryz.prog W a0 a1 σ R := by kernel_rfl
end Go.Proofs.YtgghfcchanilpaaGreatDoor
