import Derived.KernelRfl
import Derived.Test.YteikomnahelckaaGreatDoorAnn
import Derived.Test.YteikomnahelckaaGreatDoorProg
set_option linter.unusedVariables false
set_option linter.unusedSimpArgs false
namespace Go.Proofs.YteikomnahelckaaGreatDoor
open Go Go.Abs
def fn27 (Pr : Program) (W : CallP) (a0 : PV) (σ : St) (R : Res → St → Prop) : Prop :=
oF (vLen .sl a0 σ) fun a =>
bF .gtr a (nI 512) fun a =>
condW a (
wkR σ (nI 3) σ R) (
oF (vLen .sl a0 σ) fun a =>
packW [(0,a0),(14,a0),(15,a),(16,nI 0)] fun a =>
Lfp σ (fun b c d =>
bF .lss (c 16) (c 15) fun e =>
condW e (
oF (vIndex 6 (c 14) (c 16)) fun e =>
oF (vLoad true 6 e d) fun e =>
oF (vPut 6 (.agg [(nI 0),(nI 0),nL,nL,(nI 0),(.bool false)]) 0 e) fun e =>
oF (vPart true 6 e 0) fun e =>
callB W 68 [(c 0),e] d (fun e f =>
bF .neq e (nI 0) fun g =>
condW g (
wkR σ e f R) (
bF .add (c 16) (nI 1) fun e =>
kF [(0,c 0),(14,c 14),(15,c 15),(16,e)] b f)) (pNR R)) (
oF (vLen .sl (c 0) d) fun b =>
packW [(0,c 0),(27,c 0),(28,b),(29,nI 0)] fun b =>
Lfp σ (fun c e f =>
bF .lss (e 29) (e 28) fun g =>
condW g (
oF (vIndex 6 (e 27) (e 29)) fun g =>
oF (vLoad true 6 g f) fun g =>
oF (vPut 6 (.agg [(nI 0),(nI 0),nL,nL,(nI 0),(.bool false)]) 0 g) fun g =>
oF (vPart true 6 g 0) fun g =>
callB W 69 [(e 0),g] f (fun g h =>
condW g (
wkR σ (nI 7) h R) (
bF .add (e 29) (nI 1) fun g =>
kF [(0,e 0),(27,e 27),(28,e 28),(29,g)] c h)) (pNR R)) (
callB W 71 [(e 0)] f (fun c f =>
callB W 70 [c,(.bool false)] f (fun c f =>
condW c (
wkR σ (nI 10) f R) (
callB W 72 [(e 0)] f (fun c f =>
newW 1 nL f fun f g =>
oF (vStore 1 f c g) fun c =>
oF (vLen .sl (e 0) c) fun g =>
packW [(8,f),(42,e 0),(43,g),(44,nI 0)] fun e =>
Lfp σ (fun f g h =>
bF .lss (g 44) (g 43) fun i =>
condW i (
oF (vIndex 6 (g 42) (g 44)) fun i =>
oF (vLoad true 6 i h) fun i =>
oF (vPut 6 (.agg [(nI 0),(nI 0),nL,nL,(nI 0),(.bool false)]) 0 i) fun i =>
pF i 0 fun j =>
bF .eql j (nI 12) fun j =>
gF j false (fun k =>
pF i 0 fun l =>
bF .eql l (nI 13) fun m =>
k (lookE [(52,(.loc 10 0)),(53,(.v l)),(54,(.v m))]) h) h (fun k l =>
oF (vPick j (.bool true) (k 54).pv) fun j =>
gF j true (fun k =>
pF i 2 fun i =>
callB W 73 [i,(.func 74 0 [(g 8)])] l (fun m n =>
k (lookE [(57,(.loc 10 2)),(58,(.v i)),(59,(.v (.func 74 0 [(g 8)]))),(60,(.v m))]) n) (pNR R)) l (fun i k =>
oF (vPick j (i 60).pv (.bool false)) fun i =>
condW i (
wkR σ (nI 7) k R) (
bF .add (g 44) (nI 1) fun i =>
kF [(8,g 8),(42,g 42),(43,g 43),(44,i)] f k)))) (
wkR σ (nI 0) h R)) e c) (pNR R))) (pNR R)) (pNR R))) b d)) a σ)
theorem fn27_eq (W : CallP) (a0 : PV) (σ : St) (R : Res → St → Prop) : bodyC (algP W) Tryz.prog annF 27 [a0] σ R = fn27 Tryz.prog W a0 σ R := by kernel_rfl
def fn68 (Pr : Program) (W : CallP) (a0 a1 : PV) (σ : St) (R : Res → St → Prop) : Prop :=
oF (opC.vBoxAny a0) fun a =>
if 0 < a.1 then newW a.1 a.2 σ fun a b =>
oF (opC.vBoxAny a1) fun c =>
oF (vPart true 6 c.2 0) fun d =>
callB W 110 [d] b (fun b d =>
bF .neq b (nI 0) fun e =>
condW e (
wkR σ b d R) (
pF c.2 2 fun b =>
callB W 73 [b,(.func 111 0 [a])] d (fun a b =>
condW a (
wkR σ (nI 11) b R) (
pF c.2 3 fun a =>
callB W 113 [a,(.func 114 0 [])] b (fun a b =>
condW a (
wkR σ (nI 8) b R) (
pF c.2 3 fun a =>
oF (vLen .sl a b) fun d =>
packW [(21,a),(22,d),(23,nI 0),(3,c.2)] fun a =>
Lfp σ (fun c d e =>
bF .lss (d 23) (d 22) fun f =>
condW f (
oF (vIndex 1 (d 21) (d 23)) fun f =>
oF (vLoad false 1 f e) fun f =>
pF (d 3) 3 fun g =>
oF (vSubSl 1 g none (some (d 23))) fun g =>
callB W 116 [g,f] e (fun f g =>
condW f (
wkR σ (nI 5) g R) (
bF .add (d 23) (nI 1) fun f =>
kF [(21,d 21),(22,d 22),(23,f),(3,d 3)] c g)) (pNR R)) (
wkR σ (nI 0) e R)) a b)) (pNR R))) (pNR R))) (pNR R) else False
theorem fn68_eq (W : CallP) (a0 a1 : PV) (σ : St) (R : Res → St → Prop) : bodyC (algP W) Tryz.prog annF 68 [a0,a1] σ R = fn68 Tryz.prog W a0 a1 σ R := by kernel_rfl
def fn69 (Pr : Program) (W : CallP) (a0 a1 : PV) (σ : St) (R : Res → St → Prop) : Prop :=
oF (opC.vBoxAny a0) fun a =>
if 0 < a.1 then newW a.1 a.2 σ fun a b =>
oF (opC.vBoxAny a1) fun c =>
pF c.2 2 fun d =>
pF c.2 0 fun c =>
bF .eql c (nI 12) fun e =>
condW e (
wkR σ (.bool false) b R) (
bF .eql c (nI 13) fun c =>
condW c (
oF (vLen .sl d b) fun c =>
bF .sub c (nI 1) fun c =>
oF (vSubSl 1 d none (some c)) fun c =>
callB W 73 [c,(.func 117 0 [a])] b (fun c e =>
wkR σ c e R) (pNR R)) (
callB W 73 [d,(.func 117 0 [a])] b (fun a b =>
wkR σ a b R) (pNR R))) else False
theorem fn69_eq (W : CallP) (a0 a1 : PV) (σ : St) (R : Res → St → Prop) : bodyC (algP W) Tryz.prog annF 69 [a0,a1] σ R = fn69 Tryz.prog W a0 a1 σ R := by kernel_rfl
def fn70 (Pr : Program) (W : CallP) (a0 a1 : PV) (σ : St) (R : Res → St → Prop) : Prop :=
callB W 118 [a0,a1] σ (fun a b =>
bF .geq a (nI 0) fun a =>
wkR σ a b R) (pNR R)
theorem fn70_eq (W : CallP) (a0 a1 : PV) (σ : St) (R : Res → St → Prop) : bodyC (algP W) Tryz.prog annF 70 [a0,a1] σ R = fn70 Tryz.prog W a0 a1 σ R := by kernel_rfl
def fn71 (Pr : Program) (W : CallP) (a0 : PV) (σ : St) (R : Res → St → Prop) : Prop :=
oF (vLen .sl a0 σ) fun a =>
bindS (vMakeSl 1 1 (.bool false) a a σ) fun a b =>
oF (vLen .sl a0 b) fun c =>
packW [(0,a0),(3,a),(15,c),(16,nI 0)] fun a =>
Lfp σ (fun c d e =>
bF .lss (d 16) (d 15) fun f =>
condW f (
oF (vBuildSl 1 (List.replicate 2 .nilfunc) [(0,(.func 119 0 [])),(1,(.func 120 0 []))]) fun f =>
oF (vLen .sl (.list .full f) e) fun g =>
packW [(0,d 0),(3,d 3),(4,d 16),(15,d 15),(16,d 16),(19,(.list .full f)),(20,g),(21,nI 0)] fun f =>
Lfp σ (fun g h i =>
bF .lss (h 21) (h 20) fun j =>
condW j (
oF (vIndex 1 (h 19) (h 21)) fun j =>
oF (vLoad false 1 j i) fun j =>
newW 1 .nilfunc i fun k l =>
oF (vStore 1 k j l) fun j =>
callB W 121 [(h 0),(h 4),(.func 122 0 [k])] j (fun j k =>
oF (vIndex 1 j (h 4)) fun j =>
oF (vLoad false 1 j k) fun j =>
condW j (
oF (vIndex 1 (h 3) (h 4)) fun j =>
oF (vStore 1 j (.bool true) k) fun j =>
bF .add (h 21) (nI 1) fun l =>
kF [(0,h 0),(3,h 3),(4,h 4),(15,h 15),(16,h 16),(19,h 19),(20,h 20),(21,l)] g j) (
bF .add (h 21) (nI 1) fun j =>
kF [(0,h 0),(3,h 3),(4,h 4),(15,h 15),(16,h 16),(19,h 19),(20,h 20),(21,j)] g k)) (pNR R)) (
bF .add (h 16) (nI 1) fun g =>
kF [(0,h 0),(3,h 3),(15,h 15),(16,g)] c i)) f e) (
oF (vLen .sl (d 0) e) fun c =>
bindS (vMakeSl 1 1 (.bool false) c c e) fun c e =>
oF (vLen .sl (d 0) e) fun f =>
packW [(0,d 0),(3,d 3),(7,c),(41,f),(42,nI 0)] fun c =>
Lfp σ (fun d f g =>
bF .lss (f 42) (f 41) fun h =>
condW h (
oF (vIndex 1 (f 3) (f 42)) fun h =>
oF (vLoad false 1 h g) fun h =>
oF (vUn .not h) fun h =>
oF (vIndex 1 (f 7) (f 42)) fun i =>
oF (vStore 1 i h g) fun h =>
callB W 121 [(f 0),(f 42),(.func 123 0 [])] h (fun h i =>
oF (vLen .sl h i) fun j =>
packW [(0,f 0),(3,f 3),(7,f 7),(8,f 42),(41,f 41),(42,f 42),(55,h),(56,j),(57,nI 0)] fun h =>
Lfp σ (fun j k l =>
bF .lss (k 57) (k 56) fun m =>
condW m (
oF (vIndex 1 (k 55) (k 57)) fun m =>
oF (vLoad false 1 m l) fun m =>
gF m true (fun n =>
oF (vIndex 1 (k 3) (k 57)) fun o =>
oF (vLoad false 1 o l) fun p =>
n (lookE [(64,(.v (k 3))),(65,(.v (k 57))),(66,(.v o)),(67,(.v p))]) l) l (fun n o =>
oF (vPick m (n 67).pv (.bool false)) fun m =>
condW m (
oF (vIndex 1 (k 7) (k 8)) fun m =>
oF (vStore 1 m (.bool false) o) fun m =>
bF .add (k 57) (nI 1) fun n =>
kF [(0,k 0),(3,k 3),(7,k 7),(8,k 8),(41,k 41),(42,k 42),(55,k 55),(56,k 56),(57,n)] j m) (
bF .add (k 57) (nI 1) fun m =>
kF [(0,k 0),(3,k 3),(7,k 7),(8,k 8),(41,k 41),(42,k 42),(55,k 55),(56,k 56),(57,m)] j o))) (
bF .add (k 42) (nI 1) fun j =>
kF [(0,k 0),(3,k 3),(7,k 7),(41,k 41),(42,j)] d l)) h i) (pNR R)) (
wkR σ (f 7) g R)) c e)) a b
theorem fn71_eq (W : CallP) (a0 : PV) (σ : St) (R : Res → St → Prop) : bodyC (algP W) Tryz.prog annF 71 [a0] σ R = fn71 Tryz.prog W a0 σ R := by kernel_rfl
def fn72 (Pr : Program) (W : CallP) (a0 : PV) (σ : St) (R : Res → St → Prop) : Prop :=
oF (opC.vBoxAny a0) fun a =>
if 0 < a.1 then newW a.1 a.2 σ fun a b =>
oF (vLoad false 1 a b) fun c =>
oF (vLen .sl c b) fun c =>
bindS (vMakeSl 1 1 (.bool false) c c b) fun b c =>
newW 1 nL c fun c d =>
oF (vStore 1 c b d) fun b =>
oF (vLoad false 1 a b) fun d =>
oF (vLen .sl d b) fun d =>
bindS (vMakeSl 1 1 (.bool false) d d b) fun b d =>
newW 1 nL d fun d e =>
oF (vStore 1 d b e) fun b =>
newW 1 .nilfunc b fun b e =>
oF (vStore 1 b (.func 124 0 [a,d,c,b]) e) fun d =>
oF (vLoad false 1 a d) fun a =>
oF (vLen .sl a d) fun a =>
packW [(3,c),(5,b),(15,a),(16,nI 0)] fun a =>
Lfp σ (fun b c e =>
bF .lss (c 16) (c 15) fun f =>
condW f (
oF (vLoad false 1 (c 5) e) fun f =>
callG (algP W) Pr false f [(c 16)] e (fun f f =>
bF .add (c 16) (nI 1) fun g =>
kF [(3,c 3),(5,c 5),(15,c 15),(16,g)] b f) (pNR R)) (
oF (vLoad false 1 (c 3) e) fun b =>
wkR σ b e R)) a d else False
theorem fn72_eq (W : CallP) (a0 : PV) (σ : St) (R : Res → St → Prop) : bodyC (algP W) Tryz.prog annF 72 [a0] σ R = fn72 Tryz.prog W a0 σ R := by kernel_rfl
def fn73 (Pr : Program) (W : CallP) (a0 a1 : PV) (σ : St) (R : Res → St → Prop) : Prop :=
callB W 106 [a0,a1] σ (fun a b =>
bF .geq a (nI 0) fun a =>
wkR σ a b R) (pNR R)
theorem fn73_eq (W : CallP) (a0 a1 : PV) (σ : St) (R : Res → St → Prop) : bodyC (algP W) Tryz.prog annF 73 [a0,a1] σ R = fn73 Tryz.prog W a0 a1 σ R := by kernel_rfl
def fn74 (Pr : Program) (W : CallP) (a0 a1 : PV) (σ : St) (R : Res → St → Prop) : Prop :=
oF (vLoad false 1 a1 σ) fun a =>
oF (vIndex 1 a a0) fun a =>
oF (vLoad false 1 a σ) fun a =>
wkR σ a σ R
theorem fn74_eq (W : CallP) (a0 a1 : PV) (σ : St) (R : Res → St → Prop) : bodyC (algP W) Tryz.prog annF 74 [a0,a1] σ R = fn74 Tryz.prog W a0 a1 σ R := by kernel_rfl
def fn110 (Pr : Program) (W : CallP) (a0 : PV) (σ : St) (R : Res → St → Prop) : Prop :=
oF (opC.vBoxAny a0) fun a =>
pF a.2 0 fun b =>
bF .lss b (nI 0) fun b =>
gF b false (fun c =>
pF a.2 0 fun d =>
bF .geq d (nI 14) fun e =>
c (lookE [(12,(.loc 1 0)),(13,(.v d)),(14,(.v e))]) σ) σ (fun c d =>
oF (vPick b (.bool true) (c 14).pv) fun b =>
condW b (
wkR σ (nI 13) d R) (
CutW σ (fun b =>
pF a.2 0 fun c =>
bF .eql c (nI 9) fun e =>
condW e (
condW e (
kF [(3,nI 1),(4,nI 1),(1,a.2)] b d) (
bF .eql c (nI 11) fun e =>
condW e (
condW e (
pF a.2 2 fun e =>
oF (vLen .sl e d) fun e =>
kF [(3,nI 1),(4,e),(1,a.2)] b d) (
bF .eql c (nI 12) fun e =>
condW e (
pF a.2 2 fun e =>
oF (vLen .sl e d) fun e =>
kF [(3,nI 2),(4,e),(1,a.2)] b d) (
kF [(3,nI 0),(4,nI 0),(1,a.2)] b d))) (
bF .eql c (nI 13) fun e =>
condW e (
pF a.2 2 fun e =>
oF (vLen .sl e d) fun e =>
kF [(3,nI 1),(4,e),(1,a.2)] b d) (
bF .eql c (nI 12) fun e =>
condW e (
pF a.2 2 fun e =>
oF (vLen .sl e d) fun e =>
kF [(3,nI 2),(4,e),(1,a.2)] b d) (
kF [(3,nI 0),(4,nI 0),(1,a.2)] b d))))) (
bF .eql c (nI 10) fun e =>
condW e (
kF [(3,nI 1),(4,nI 1),(1,a.2)] b d) (
bF .eql c (nI 11) fun e =>
condW e (
condW e (
pF a.2 2 fun e =>
oF (vLen .sl e d) fun e =>
kF [(3,nI 1),(4,e),(1,a.2)] b d) (
bF .eql c (nI 12) fun e =>
condW e (
pF a.2 2 fun e =>
oF (vLen .sl e d) fun e =>
kF [(3,nI 2),(4,e),(1,a.2)] b d) (
kF [(3,nI 0),(4,nI 0),(1,a.2)] b d))) (
bF .eql c (nI 13) fun e =>
condW e (
pF a.2 2 fun e =>
oF (vLen .sl e d) fun e =>
kF [(3,nI 1),(4,e),(1,a.2)] b d) (
bF .eql c (nI 12) fun c =>
condW c (
pF a.2 2 fun c =>
oF (vLen .sl c d) fun c =>
kF [(3,nI 2),(4,c),(1,a.2)] b d) (
kF [(3,nI 0),(4,nI 0),(1,a.2)] b d)))))) (fun a b =>
pF (a 1) 0 fun c =>
bF .eql c (nI 10) fun c =>
pF (a 1) 0 fun d =>
bF .eql d (nI 3) fun d =>
gF d false (fun e =>
pF (a 1) 0 fun f =>
bF .eql f (nI 4) fun g =>
e (lookE [(39,(.loc 1 0)),(40,(.v f)),(41,(.v g))]) b) b (fun b e =>
oF (vPick d (.bool true) (b 41).pv) fun b =>
gF b false (fun d =>
pF (a 1) 0 fun f =>
bF .eql f (nI 5) fun g =>
d (lookE [(44,(.loc 1 0)),(45,(.v f)),(46,(.v g))]) e) e (fun d e =>
oF (vPick b (.bool true) (d 46).pv) fun b =>
CutW σ (fun d =>
pF (a 1) 0 fun f =>
bF .eql f (nI 11) fun f =>
condW f (
pF (a 1) 2 fun f =>
oF (vLen .sl f e) fun f =>
kF [(3,a 3),(4,a 4),(5,f),(6,c),(7,b),(1,a 1)] d e) (
kF [(3,a 3),(4,a 4),(5,nI 0),(6,c),(7,b),(1,a 1)] d e)) (fun a b =>
pF (a 1) 2 fun c =>
oF (vLen .sl c b) fun c =>
bF .lss c (a 3) fun c =>
gF c false (fun d =>
pF (a 1) 2 fun e =>
oF (vLen .sl e b) fun f =>
bF .gtr f (a 4) fun g =>
d (lookE [(61,(.loc 1 2)),(62,(.v e)),(63,(.v f)),(64,(.v (a 4))),(65,(.v g))]) b) b (fun b d =>
oF (vPick c (.bool true) (b 65).pv) fun b =>
condW b (
condW b (
wkR σ (nI 14) d R) (
gF (a 6) true (fun b =>
pF (a 1) 4 fun c =>
bF .lss c (nI 1) fun e =>
b (lookE [(75,(.loc 1 4)),(76,(.v c)),(77,(.v e)),(78,(.v e))]) d) d (fun b c =>
gF (b 78).pv false (fun e =>
pF (a 1) 4 fun f =>
bF .gtr f (nI 3) fun g =>
e (lookE [(79,(.loc 1 4)),(80,(.v f)),(81,(.v g))]) c) c (fun c e =>
gF (a 6) true (fun f =>
oF (vPick (b 78).pv (.bool true) (c 81).pv) fun b =>
f (lookE [(82,(.v b))]) e) e (fun b c =>
oF (vPick (a 6) (b 82).pv (.bool false)) fun b =>
gF b false (fun e =>
oF (vUn .not (a 6)) fun f =>
e (lookE [(85,(.v (a 6))),(86,(.v f)),(87,(.v f))]) c) c (fun c e =>
gF (c 87).pv true (fun f =>
pF (a 1) 4 fun g =>
bF .neq g (nI 0) fun h =>
f (lookE [(88,(.loc 1 4)),(89,(.v g)),(90,(.v h))]) e) e (fun e f =>
gF b false (fun g =>
oF (vPick (c 87).pv (e 90).pv (.bool false)) fun c =>
g (lookE [(91,(.v c))]) f) f (fun c e =>
oF (vPick b (.bool true) (c 91).pv) fun b =>
condW b (
wkR σ (nI 14) e R) (
gF (a 7) true (fun b =>
pF (a 1) 1 fun c =>
bF .lss c (nI (-1)) fun f =>
b (lookE [(96,(.loc 1 1)),(97,(.v c)),(98,(.v f)),(99,(.v f))]) e) e (fun b c =>
gF (b 99).pv false (fun e =>
pF (a 1) 1 fun f =>
bF .gtr f (nI 1) fun g =>
e (lookE [(100,(.loc 1 1)),(101,(.v f)),(102,(.v g))]) c) c (fun c e =>
gF (a 7) true (fun f =>
oF (vPick (b 99).pv (.bool true) (c 102).pv) fun b =>
f (lookE [(103,(.v b))]) e) e (fun b c =>
oF (vPick (a 7) (b 103).pv (.bool false)) fun b =>
gF b false (fun e =>
oF (vUn .not (a 7)) fun f =>
e (lookE [(106,(.v (a 7))),(107,(.v f)),(108,(.v f))]) c) c (fun c e =>
gF (c 108).pv true (fun f =>
pF (a 1) 1 fun g =>
bF .neq g (nI 0) fun h =>
f (lookE [(109,(.loc 1 1)),(110,(.v g)),(111,(.v h))]) e) e (fun e f =>
gF b false (fun g =>
oF (vPick (c 108).pv (e 111).pv (.bool false)) fun c =>
g (lookE [(112,(.v c))]) f) f (fun c e =>
oF (vPick b (.bool true) (c 112).pv) fun b =>
condW b (
wkR σ (nI 14) e R) (
pF (a 1) 5 fun b =>
gF b true (fun c =>
oF (vUn .not (a 6)) fun f =>
c (lookE [(118,(.v (a 6))),(119,(.v f))]) e) e (fun c e =>
oF (vPick b (c 119).pv (.bool false)) fun b =>
condW b (
wkR σ (nI 14) e R) (
pF (a 1) 2 fun b =>
oF (vLen .sl b e) fun b =>
bF .gtr b (nI 64) fun b =>
condW b (
wkR σ (nI 3) e R) (
wkR σ (nI 0) e R))))))))))))))))))) (
pF (a 1) 3 fun b =>
oF (vLen .sl b d) fun b =>
bF .neq b (a 5) fun b =>
condW b (
wkR σ (nI 14) d R) (
gF (a 6) true (fun b =>
pF (a 1) 4 fun c =>
bF .lss c (nI 1) fun e =>
b (lookE [(75,(.loc 1 4)),(76,(.v c)),(77,(.v e)),(78,(.v e))]) d) d (fun b c =>
gF (b 78).pv false (fun d =>
pF (a 1) 4 fun e =>
bF .gtr e (nI 3) fun f =>
d (lookE [(79,(.loc 1 4)),(80,(.v e)),(81,(.v f))]) c) c (fun c d =>
gF (a 6) true (fun e =>
oF (vPick (b 78).pv (.bool true) (c 81).pv) fun b =>
e (lookE [(82,(.v b))]) d) d (fun b c =>
oF (vPick (a 6) (b 82).pv (.bool false)) fun b =>
gF b false (fun d =>
oF (vUn .not (a 6)) fun e =>
d (lookE [(85,(.v (a 6))),(86,(.v e)),(87,(.v e))]) c) c (fun c d =>
gF (c 87).pv true (fun e =>
pF (a 1) 4 fun f =>
bF .neq f (nI 0) fun g =>
e (lookE [(88,(.loc 1 4)),(89,(.v f)),(90,(.v g))]) d) d (fun d e =>
gF b false (fun f =>
oF (vPick (c 87).pv (d 90).pv (.bool false)) fun c =>
f (lookE [(91,(.v c))]) e) e (fun c d =>
oF (vPick b (.bool true) (c 91).pv) fun b =>
condW b (
wkR σ (nI 14) d R) (
gF (a 7) true (fun b =>
pF (a 1) 1 fun c =>
bF .lss c (nI (-1)) fun e =>
b (lookE [(96,(.loc 1 1)),(97,(.v c)),(98,(.v e)),(99,(.v e))]) d) d (fun b c =>
gF (b 99).pv false (fun d =>
pF (a 1) 1 fun e =>
bF .gtr e (nI 1) fun f =>
d (lookE [(100,(.loc 1 1)),(101,(.v e)),(102,(.v f))]) c) c (fun c d =>
gF (a 7) true (fun e =>
oF (vPick (b 99).pv (.bool true) (c 102).pv) fun b =>
e (lookE [(103,(.v b))]) d) d (fun b c =>
oF (vPick (a 7) (b 103).pv (.bool false)) fun b =>
gF b false (fun d =>
oF (vUn .not (a 7)) fun e =>
d (lookE [(106,(.v (a 7))),(107,(.v e)),(108,(.v e))]) c) c (fun c d =>
gF (c 108).pv true (fun e =>
pF (a 1) 1 fun f =>
bF .neq f (nI 0) fun g =>
e (lookE [(109,(.loc 1 1)),(110,(.v f)),(111,(.v g))]) d) d (fun d e =>
gF b false (fun f =>
oF (vPick (c 108).pv (d 111).pv (.bool false)) fun c =>
f (lookE [(112,(.v c))]) e) e (fun c d =>
oF (vPick b (.bool true) (c 112).pv) fun b =>
condW b (
wkR σ (nI 14) d R) (
pF (a 1) 5 fun b =>
gF b true (fun c =>
oF (vUn .not (a 6)) fun e =>
c (lookE [(118,(.v (a 6))),(119,(.v e))]) d) d (fun c d =>
oF (vPick b (c 119).pv (.bool false)) fun b =>
condW b (
wkR σ (nI 14) d R) (
pF (a 1) 2 fun a =>
oF (vLen .sl a d) fun a =>
bF .gtr a (nI 64) fun a =>
condW a (
wkR σ (nI 3) d R) (
wkR σ (nI 0) d R))))))))))))))))))))))))))
theorem fn110_eq (W : CallP) (a0 : PV) (σ : St) (R : Res → St → Prop) : bodyC (algP W) Tryz.prog annF 110 [a0] σ R = fn110 Tryz.prog W a0 σ R := by kernel_rfl
def fn111 (Pr : Program) (W : CallP) (a0 a1 : PV) (σ : St) (R : Res → St → Prop) : Prop :=
oF (vLoad false 1 a1 σ) fun a =>
callB W 112 [a,a0] σ (fun a b =>
oF (vUn .not a) fun a =>
wkR σ a b R) (pNR R)
theorem fn111_eq (W : CallP) (a0 a1 : PV) (σ : St) (R : Res → St → Prop) : bodyC (algP W) Tryz.prog annF 111 [a0,a1] σ R = fn111 Tryz.prog W a0 a1 σ R := by kernel_rfl
def fn112 (Pr : Program) (W : CallP) (a0 a1 : PV) (σ : St) (R : Res → St → Prop) : Prop :=
bF .geq a1 (nI 0) fun a =>
gF a true (fun b =>
oF (vLen .sl a0 σ) fun c =>
bF .lss a1 c fun d =>
b (lookE [(8,(.v a1)),(9,(.v a0)),(10,(.v c)),(11,(.v d))]) σ) σ (fun b c =>
oF (vPick a (b 11).pv (.bool false)) fun a =>
wkR σ a c R)
theorem fn112_eq (W : CallP) (a0 a1 : PV) (σ : St) (R : Res → St → Prop) : bodyC (algP W) Tryz.prog annF 112 [a0,a1] σ R = fn112 Tryz.prog W a0 a1 σ R := by kernel_rfl
def fn113 (Pr : Program) (W : CallP) (a0 a1 : PV) (σ : St) (R : Res → St → Prop) : Prop :=
callB W 190 [a0,a1] σ (fun a b =>
bF .geq a (nI 0) fun a =>
wkR σ a b R) (pNR R)
theorem fn113_eq (W : CallP) (a0 a1 : PV) (σ : St) (R : Res → St → Prop) : bodyC (algP W) Tryz.prog annF 113 [a0,a1] σ R = fn113 Tryz.prog W a0 a1 σ R := by kernel_rfl
def fn114 (Pr : Program) (W : CallP) (a0 : PV) (σ : St) (R : Res → St → Prop) : Prop :=
callB W 115 [a0] σ (fun a b =>
oF (vUn .not a) fun a =>
wkR σ a b R) (pNR R)
theorem fn114_eq (W : CallP) (a0 : PV) (σ : St) (R : Res → St → Prop) : bodyC (algP W) Tryz.prog annF 114 [a0] σ R = fn114 Tryz.prog W a0 σ R := by kernel_rfl
def fn115 (Pr : Program) (W : CallP) (a0 : PV) (σ : St) (R : Res → St → Prop) : Prop :=
callB W 191 [a0,(.int .u8 97),(.int .u8 122)] σ (fun a b =>
wkR σ a b R) (pNR R)
theorem fn115_eq (W : CallP) (a0 : PV) (σ : St) (R : Res → St → Prop) : bodyC (algP W) Tryz.prog annF 115 [a0] σ R = fn115 Tryz.prog W a0 σ R := by kernel_rfl
def fn116 (Pr : Program) (W : CallP) (a0 a1 : PV) (σ : St) (R : Res → St → Prop) : Prop :=
callB W 192 [a0,a1] σ (fun a b =>
bF .geq a (nI 0) fun a =>
wkR σ a b R) (pNR R)
theorem fn116_eq (W : CallP) (a0 a1 : PV) (σ : St) (R : Res → St → Prop) : bodyC (algP W) Tryz.prog annF 116 [a0,a1] σ R = fn116 Tryz.prog W a0 a1 σ R := by kernel_rfl
def fn117 (Pr : Program) (W : CallP) (a0 a1 : PV) (σ : St) (R : Res → St → Prop) : Prop :=
oF (vLoad false 1 a1 σ) fun a =>
oF (vIndex 6 a a0) fun a =>
oF (vField 0 a) fun a =>
oF (vLoad false 1 a σ) fun a =>
bF .eql a (nI 0) fun a =>
wkR σ a σ R
theorem fn117_eq (W : CallP) (a0 a1 : PV) (σ : St) (R : Res → St → Prop) : bodyC (algP W) Tryz.prog annF 117 [a0,a1] σ R = fn117 Tryz.prog W a0 a1 σ R := by kernel_rfl
def fn118 (Pr : Program) (W : CallP) (a0 a1 : PV) (σ : St) (R : Res → St → Prop) : Prop :=
oF (vLen .sl a0 σ) fun a =>
packW [(0,a0),(1,a1),(7,a),(8,nI 0)] fun a =>
Lfp σ (fun b c d =>
bF .lss (c 8) (c 7) fun e =>
condW e (
oF (vIndex 1 (c 0) (c 8)) fun e =>
oF (vLoad false 1 e d) fun e =>
oF (vBin (some .bool) .eql (c 1) e) fun e =>
condW e (
wkR σ (c 8) d R) (
bF .add (c 8) (nI 1) fun e =>
kF [(0,c 0),(1,c 1),(7,c 7),(8,e)] b d)) (
wkR σ (nI (-1)) d R)) a σ
theorem fn118_eq (W : CallP) (a0 a1 : PV) (σ : St) (R : Res → St → Prop) : bodyC (algP W) Tryz.prog annF 118 [a0,a1] σ R = fn118 Tryz.prog W a0 a1 σ R := by kernel_rfl
def fn119 (Pr : Program) (W : CallP) (a0 : PV) (σ : St) (R : Res → St → Prop) : Prop :=
oF (opC.vBoxAny a0) fun a =>
pF a.2 0 fun b =>
bF .eql b (nI 9) fun b =>
gF b false (fun c =>
pF a.2 0 fun a =>
bF .eql a (nI 13) fun d =>
c (lookE [(7,(.loc 1 0)),(8,(.v a)),(9,(.v d))]) σ) σ (fun a c =>
oF (vPick b (.bool true) (a 9).pv) fun a =>
wkR σ a c R)
theorem fn119_eq (W : CallP) (a0 : PV) (σ : St) (R : Res → St → Prop) : bodyC (algP W) Tryz.prog annF 119 [a0] σ R = fn119 Tryz.prog W a0 σ R := by kernel_rfl
def fn120 (Pr : Program) (W : CallP) (a0 : PV) (σ : St) (R : Res → St → Prop) : Prop :=
oF (opC.vBoxAny a0) fun a =>
pF a.2 0 fun b =>
bF .eql b (nI 11) fun b =>
gF b false (fun c =>
pF a.2 0 fun d =>
bF .eql d (nI 13) fun e =>
c (lookE [(7,(.loc 1 0)),(8,(.v d)),(9,(.v e)),(10,(.v e))]) σ) σ (fun c d =>
gF (c 10).pv true (fun e =>
pF a.2 2 fun a =>
oF (vLen .sl a d) fun f =>
bF .gtr f (nI 1) fun g =>
e (lookE [(11,(.loc 1 2)),(12,(.v a)),(13,(.v f)),(14,(.v g))]) d) d (fun a d =>
gF b false (fun e =>
oF (vPick (c 10).pv (a 14).pv (.bool false)) fun a =>
e (lookE [(15,(.v a))]) d) d (fun a c =>
oF (vPick b (.bool true) (a 15).pv) fun a =>
wkR σ a c R)))
theorem fn120_eq (W : CallP) (a0 : PV) (σ : St) (R : Res → St → Prop) : bodyC (algP W) Tryz.prog annF 120 [a0] σ R = fn120 Tryz.prog W a0 σ R := by kernel_rfl
def fn121 (Pr : Program) (W : CallP) (a0 a1 a2 : PV) (σ : St) (R : Res → St → Prop) : Prop :=
oF (vLen .sl a0 σ) fun a =>
bindS (vMakeSl 1 1 (.bool false) a a σ) fun a b =>
mF 1 (nI 0) a1 fun c =>
rowW 1 1 c b fun b c =>
packW [(0,a0),(2,a2),(7,a),(8,b)] fun a =>
Lfp σ (fun b d e =>
oF (vLen .sl (d 8) e) fun f =>
bF .gtr f (nI 0) fun f =>
condW f (
oF (vLen .sl (d 8) e) fun f =>
bF .sub f (nI 1) fun f =>
oF (vIndex 1 (d 8) f) fun f =>
oF (vLoad false 1 f e) fun f =>
oF (vIndex 6 (d 0) f) fun f =>
oF (vLoad true 6 f e) fun f =>
oF (vPut 6 (.agg [(nI 0),(nI 0),nL,nL,(nI 0),(.bool false)]) 0 f) fun f =>
oF (vLen .sl (d 8) e) fun g =>
bF .sub g (nI 1) fun g =>
oF (vSubSl 1 (d 8) none (some g)) fun g =>
oF (vPart true 6 f 0) fun h =>
callG (algP W) Pr false (d 2) [h] e (fun h i =>
oF (vUn .not h) fun h =>
condW h (
kF [(0,d 0),(2,d 2),(7,d 7),(8,g)] b i) (
pF f 2 fun f =>
oF (vLen .sl f i) fun h =>
packW [(0,d 0),(2,d 2),(7,d 7),(8,g),(39,f),(40,h),(41,nI 0)] fun f =>
Lfp σ (fun g h j =>
bF .lss (h 41) (h 40) fun k =>
condW k (
oF (vIndex 1 (h 39) (h 41)) fun k =>
oF (vLoad false 1 k j) fun k =>
oF (vIndex 1 (h 7) k) fun l =>
oF (vLoad false 1 l j) fun l =>
oF (vUn .not l) fun l =>
condW l (
oF (vIndex 1 (h 7) k) fun l =>
oF (vStore 1 l (.bool true) j) fun l =>
mF 1 (nI 0) k fun k =>
bindS (vAppend 1 8 (h 8) (.list .full k) l) fun k l =>
bF .add (h 41) (nI 1) fun m =>
kF [(0,h 0),(2,h 2),(7,h 7),(8,k),(39,h 39),(40,h 40),(41,m)] g l) (
bF .add (h 41) (nI 1) fun k =>
kF [(0,h 0),(2,h 2),(7,h 7),(8,h 8),(39,h 39),(40,h 40),(41,k)] g j)) (
kF [(0,h 0),(2,h 2),(7,h 7),(8,h 8)] b j)) f i)) (pNR R)) (
wkR σ (d 7) e R)) a c
theorem fn121_eq (W : CallP) (a0 a1 a2 : PV) (σ : St) (R : Res → St → Prop) : bodyC (algP W) Tryz.prog annF 121 [a0,a1,a2] σ R = fn121 Tryz.prog W a0 a1 a2 σ R := by kernel_rfl
def fn122 (Pr : Program) (W : CallP) (a0 a1 : PV) (σ : St) (R : Res → St → Prop) : Prop :=
oF (opC.vBoxAny a0) fun a =>
oF (vLoad false 1 a1 σ) fun b =>
oF (vPart true 6 a.2 0) fun a =>
callG (algP W) Pr false b [a] σ (fun a b =>
oF (vUn .not a) fun a =>
wkR σ a b R) (pNR R)
theorem fn122_eq (W : CallP) (a0 a1 : PV) (σ : St) (R : Res → St → Prop) : bodyC (algP W) Tryz.prog annF 122 [a0,a1] σ R = fn122 Tryz.prog W a0 a1 σ R := by kernel_rfl
def fn123 (Pr : Program) (W : CallP) (a0 : PV) (σ : St) (R : Res → St → Prop) : Prop :=
oF (opC.vBoxAny a0) fun a =>
wkR σ (.bool true) σ R
theorem fn123_eq (W : CallP) (a0 : PV) (σ : St) (R : Res → St → Prop) : bodyC (algP W) Tryz.prog annF 123 [a0] σ R = fn123 Tryz.prog W a0 σ R := by kernel_rfl
def fn124 (Pr : Program) (W : CallP) (a0 a1 a2 a3 a4 : PV) (σ : St) (R : Res → St → Prop) : Prop :=
oF (vLoad false 1 a1 σ) fun a =>
oF (vIndex 6 a a0) fun a =>
oF (vLoad true 6 a σ) fun a =>
oF (vPut 6 (.agg [(nI 0),(nI 0),nL,nL,(nI 0),(.bool false)]) 0 a) fun a =>
oF (vLoad false 1 a2 σ) fun b =>
oF (vIndex 1 b a0) fun b =>
oF (vLoad false 1 b σ) fun b =>
oF (vUn .not b) fun b =>
gF b true (fun c =>
pF a 0 fun d =>
bF .eql d (nI 10) fun e =>
c (lookE [(20,(.loc 7 0)),(21,(.v d)),(22,(.v e)),(23,(.v e))]) σ) σ (fun c d =>
gF (c 23).pv false (fun e =>
pF a 0 fun f =>
bF .eql f (nI 11) fun g =>
e (lookE [(24,(.loc 7 0)),(25,(.v f)),(26,(.v g))]) d) d (fun d e =>
gF b true (fun f =>
oF (vPick (c 23).pv (.bool true) (d 26).pv) fun c =>
f (lookE [(27,(.v c))]) e) e (fun c d =>
oF (vPick b (c 27).pv (.bool false)) fun b =>
condW b (
oF (vLoad false 1 a2 d) fun b =>
oF (vIndex 1 b a0) fun b =>
oF (vStore 1 b (.bool true) d) fun b =>
oF (vLoad false 1 a3 b) fun c =>
pF a 5 fun e =>
oF (vIndex 1 c a0) fun c =>
oF (vStore 1 c e b) fun b =>
pF a 2 fun a =>
oF (vLen .sl a b) fun c =>
packW [(0,a0),(3,a3),(4,a4),(38,a),(39,c),(40,nI 0)] fun a =>
Lfp σ (fun c e f =>
bF .lss (e 40) (e 39) fun g =>
condW g (
oF (vIndex 1 (e 38) (e 40)) fun g =>
oF (vLoad false 1 g f) fun g =>
((oF (vLoad false 1 (e 3) f) fun h =>
oF (vLoad false 1 (e 4) f) fun i =>
callG (algP W) Pr false i [g] f (fun i j =>
gF i false (fun k =>
oF (vLoad false 1 (e 3) j) fun l =>
oF (vIndex 1 l (e 0)) fun m =>
oF (vLoad false 1 m j) fun n =>
k (lookE [(50,(.v l)),(51,(.v (e 0))),(52,(.v m)),(53,(.v n))]) j) j (fun j k =>
oF (vPick i (.bool true) (j 53).pv) fun i =>
oF (vIndex 1 h (e 0)) fun h =>
oF (vStore 1 h i k) fun h =>
bF .add (e 40) (nI 1) fun i =>
kF [(0,e 0),(3,e 3),(4,e 4),(38,e 38),(39,e 39),(40,i)] c h)) (pNR R)) ∧ (oF (vLoad false 1 (e 4) f) fun h =>
callG (algP W) Pr false h [g] f (fun g h =>
oF (vLoad false 1 (e 3) h) fun i =>
gF g false (fun j =>
oF (vLoad false 1 (e 3) h) fun k =>
oF (vIndex 1 k (e 0)) fun l =>
oF (vLoad false 1 l h) fun m =>
j (lookE [(50,(.v k)),(51,(.v (e 0))),(52,(.v l)),(53,(.v m))]) h) h (fun h j =>
oF (vPick g (.bool true) (h 53).pv) fun g =>
oF (vIndex 1 i (e 0)) fun h =>
oF (vStore 1 h g j) fun g =>
bF .add (e 40) (nI 1) fun h =>
kF [(0,e 0),(3,e 3),(4,e 4),(38,e 38),(39,e 39),(40,h)] c g)) (pNR R)))) (
oF (vLoad false 1 (e 3) f) fun c =>
oF (vIndex 1 c (e 0)) fun c =>
oF (vLoad false 1 c f) fun c =>
wkR σ c f R)) a b) (
oF (vLoad false 1 a3 d) fun a =>
oF (vIndex 1 a a0) fun a =>
oF (vLoad false 1 a d) fun a =>
wkR σ a d R))))
theorem fn124_eq (W : CallP) (a0 a1 a2 a3 a4 : PV) (σ : St) (R : Res → St → Prop) : bodyC (algP W) Tryz.prog annF 124 [a0,a1,a2,a3,a4] σ R = fn124 Tryz.prog W a0 a1 a2 a3 a4 σ R := by kernel_rfl
def fn191 (Pr : Program) (W : CallP) (a0 a1 a2 : PV) (σ : St) (R : Res → St → Prop) : Prop :=
oF (vLen .str a0 σ) fun a =>
packW [(0,a0),(1,a1),(2,a2),(10,a),(11,nI 0)] fun a =>
Lfp σ (fun b c d =>
bF .lss (c 11) (c 10) fun e =>
condW e (
oF (vStrAt (c 0) (c 11)) fun e =>
bF .geq e (c 1) fun e =>
gF e true (fun f =>
oF (vStrAt (c 0) (c 11)) fun g =>
bF .leq g (c 2) fun h =>
f (lookE [(20,(.v (c 0))),(21,(.v (c 11))),(22,(.v g)),(23,(.v (c 2))),(24,(.v h))]) d) d (fun f g =>
oF (vPick e (f 24).pv (.bool false)) fun e =>
oF (vUn .not e) fun e =>
gF e true (fun f =>
bF .eql (c 11) (nI 0) fun h =>
f (lookE [(29,(.v (c 11))),(30,(.v h)),(31,(.v h))]) g) g (fun f g =>
gF (f 31).pv false (fun h =>
oF (vStrAt (c 0) (c 11)) fun i =>
bF .lss i (.int .u8 48) fun j =>
h (lookE [(32,(.v (c 0))),(33,(.v (c 11))),(34,(.v i)),(35,(.v j))]) g) g (fun g h =>
gF e true (fun i =>
oF (vPick (f 31).pv (.bool true) (g 35).pv) fun f =>
i (lookE [(36,(.v f)),(37,(.v f))]) h) h (fun f g =>
gF (f 37).pv false (fun h =>
oF (vStrAt (c 0) (c 11)) fun i =>
bF .gtr i (.int .u8 57) fun j =>
h (lookE [(38,(.v (c 0))),(39,(.v (c 11))),(40,(.v i)),(41,(.v j))]) g) g (fun g h =>
gF e true (fun i =>
oF (vPick (f 37).pv (.bool true) (g 41).pv) fun f =>
i (lookE [(42,(.v f))]) h) h (fun f g =>
oF (vPick e (f 42).pv (.bool false)) fun e =>
condW e (
wkR σ (.bool false) g R) (
bF .add (c 11) (nI 1) fun e =>
kF [(0,c 0),(1,c 1),(2,c 2),(10,c 10),(11,e)] b g)))))))) (
oF (vLen .str (c 0) d) fun b =>
bF .geq b (nI 1) fun b =>
gF b true (fun e =>
oF (vLen .str (c 0) d) fun f =>
bF .leq f (nI 40) fun g =>
e (lookE [(49,(.v (c 0))),(50,(.v f)),(51,(.v g))]) d) d (fun c d =>
oF (vPick b (c 51).pv (.bool false)) fun b =>
wkR σ b d R))) a σ
theorem fn191_eq (W : CallP) (a0 a1 a2 : PV) (σ : St) (R : Res → St → Prop) : bodyC (algP W) Tryz.prog annF 191 [a0,a1,a2] σ R = fn191 Tryz.prog W a0 a1 a2 σ R := by kernel_rfl
def fn192 (Pr : Program) (W : CallP) (a0 a1 : PV) (σ : St) (R : Res → St → Prop) : Prop :=
oF (vLen .sl a0 σ) fun a =>
packW [(0,a0),(1,a1),(7,a),(8,nI 0)] fun a =>
Lfp σ (fun b c d =>
bF .lss (c 8) (c 7) fun e =>
condW e (
oF (vIndex 1 (c 0) (c 8)) fun e =>
oF (vLoad false 1 e d) fun e =>
bF .eql (c 1) e fun e =>
condW e (
wkR σ (c 8) d R) (
bF .add (c 8) (nI 1) fun e =>
kF [(0,c 0),(1,c 1),(7,c 7),(8,e)] b d)) (
wkR σ (nI (-1)) d R)) a σ
theorem fn192_eq (W : CallP) (a0 a1 : PV) (σ : St) (R : Res → St → Prop) : bodyC (algP W) Tryz.prog annF 192 [a0,a1] σ R = fn192 Tryz.prog W a0 a1 σ R := by kernel_rfl
def fn190 (Pr : Program) (W : CallP) (a0 a1 : PV) (σ : St) (R : Res → St → Prop) : Prop :=
oF (vLen .sl a0 σ) fun a =>
packW [(0,a0),(1,a1),(7,a),(8,nI 0)] fun a =>
Lfp σ (fun b c d =>
bF .lss (c 8) (c 7) fun e =>
condW e (
oF (vIndex 1 (c 0) (c 8)) fun e =>
oF (vLoad false 1 e d) fun e =>
callG (algP W) Pr false (c 1) [e] d (fun e f =>
condW e (
wkR σ (c 8) f R) (
bF .add (c 8) (nI 1) fun e =>
kF [(0,c 0),(1,c 1),(7,c 7),(8,e)] b f)) (pNR R)) (
wkR σ (nI (-1)) d R)) a σ
theorem fn190_eq (W : CallP) (a0 a1 : PV) (σ : St) (R : Res → St → Prop) : bodyC (algP W) Tryz.prog annF 190 [a0,a1] σ R = fn190 Tryz.prog W a0 a1 σ R := by kernel_rfl
def fn106 (Pr : Program) (W : CallP) (a0 a1 : PV) (σ : St) (R : Res → St → Prop) : Prop :=
oF (vLen .sl a0 σ) fun a =>
packW [(0,a0),(1,a1),(7,a),(8,nI 0)] fun a =>
Lfp σ (fun b c d =>
bF .lss (c 8) (c 7) fun e =>
condW e (
oF (vIndex 1 (c 0) (c 8)) fun e =>
oF (vLoad false 1 e d) fun e =>
callG (algP W) Pr false (c 1) [e] d (fun e f =>
condW e (
wkR σ (c 8) f R) (
bF .add (c 8) (nI 1) fun e =>
kF [(0,c 0),(1,c 1),(7,c 7),(8,e)] b f)) (pNR R)) (
wkR σ (nI (-1)) d R)) a σ
theorem fn106_eq (W : CallP) (a0 a1 : PV) (σ : St) (R : Res → St → Prop) : bodyC (algP W) Tryz.prog annF 106 [a0,a1] σ R = fn106 Tryz.prog W a0 a1 σ R := by kernel_rfl
end Go.Proofs.YteikomnahelckaaGreatDoor
