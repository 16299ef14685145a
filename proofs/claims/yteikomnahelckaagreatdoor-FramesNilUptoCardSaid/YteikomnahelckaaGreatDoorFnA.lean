import Derived.KernelRfl
import Derived.Test.YteikomnahelckaaGreatDoorAnn
import Derived.Test.YteikomnahelckaaGreatDoorProg
set_option linter.unusedVariables false
set_option linter.unusedSimpArgs false
namespace Go.Proofs.YteikomnahelckaaGreatDoor
open Go Go.Abs
def fn7 (Pr : Program) (W : CallP) (a0 a1 : PV) (σ : St) (R : Res → St → Prop) : Prop :=
callB W 11 [.nilptr,a0] σ (fun a b =>
oF (vExtract a 0) fun c =>
oF (vExtract a 1) fun a =>
callB W 16 [.nilptr,a0,(nI 0)] b (fun b c =>
oF (vExtract b 0) fun d =>
oF (vExtract b 1) fun d =>
oF (vExtract b 2) fun b =>
callB W 20 [.nilptr,a1] c (fun c d =>
oF (vExtract c 0) fun e =>
oF (vExtract c 1) fun c =>
oF (vBuild [nL,(nI 0),(nI 0),(.str []),(nI 0),(nI 0),(nI 0),nL,nL,nL,(nI 0)] []) fun e =>
callB W 23 [.nilptr,(.agg e)] d (fun d e =>
oF (vExtract d 0) fun f =>
oF (vExtract d 1) fun d =>
callB W 8 [] e (fun e f =>
gF e true (fun g =>
bF .eql a (nI 6) fun h =>
g (lookE [(42,(.v a)),(43,(.v h))]) f) f (fun a f =>
oF (vPick e (a 43).pv (.bool false)) fun a =>
gF a true (fun e =>
bF .eql b (nI 6) fun g =>
e (lookE [(46,(.v b)),(47,(.v g))]) f) f (fun b e =>
oF (vPick a (b 47).pv (.bool false)) fun a =>
gF a true (fun b =>
bF .eql c (nI 6) fun f =>
b (lookE [(50,(.v c)),(51,(.v f))]) e) e (fun b c =>
oF (vPick a (b 51).pv (.bool false)) fun a =>
gF a true (fun b =>
bF .eql d (nI 6) fun e =>
b (lookE [(54,(.v d)),(55,(.v e))]) c) c (fun b c =>
oF (vPick a (b 55).pv (.bool false)) fun a =>
gF a true (fun b =>
callB W 15 [.nilptr,a0] c (fun d e =>
bF .eql d (nI 0) fun f =>
b (lookE [(58,(.v .nilptr)),(59,(.v a0)),(60,(.v d)),(61,(.v f))]) e) (pNR R)) c (fun b c =>
oF (vPick a (b 61).pv (.bool false)) fun a =>
gF a true (fun b =>
callB W 14 [.nilptr,a0] c (fun d e =>
bF .eql d (nI 0) fun f =>
b (lookE [(64,(.v .nilptr)),(65,(.v a0)),(66,(.v d)),(67,(.v f))]) e) (pNR R)) c (fun b c =>
oF (vPick a (b 67).pv (.bool false)) fun a =>
gF a true (fun b =>
callB W 24 [.nilptr,a0] c (fun d e =>
bF .eql d (nI (-1)) fun f =>
b (lookE [(70,(.v .nilptr)),(71,(.v a0)),(72,(.v d)),(73,(.v f))]) e) (pNR R)) c (fun b c =>
oF (vPick a (b 73).pv (.bool false)) fun a =>
gF a true (fun b =>
callB W 13 [.nilptr] c (fun d e =>
oF (vLen .sl d e) fun f =>
bF .eql f (nI 0) fun g =>
b (lookE [(76,(.v .nilptr)),(77,(.v d)),(78,(.v f)),(79,(.v g))]) e) (pNR R)) c (fun b c =>
oF (vPick a (b 79).pv (.bool false)) fun a =>
gF a true (fun b =>
callB W 25 [.nilptr] c (fun d e =>
oF (vLen .sl d e) fun f =>
bF .eql f (nI 0) fun g =>
b (lookE [(82,(.v .nilptr)),(83,(.v d)),(84,(.v f)),(85,(.v g))]) e) (pNR R)) c (fun b c =>
oF (vPick a (b 85).pv (.bool false)) fun a =>
gF a true (fun b =>
callB W 26 [.nilptr] c (fun d e =>
oF (vLen .sl d e) fun f =>
bF .eql f (nI 0) fun g =>
b (lookE [(88,(.v .nilptr)),(89,(.v d)),(90,(.v f)),(91,(.v g))]) e) (pNR R)) c (fun b c =>
oF (vPick a (b 91).pv (.bool false)) fun a =>
wkR σ a c R))))))))))) (pNR R)) (pNR R)) (pNR R)) (pNR R)) (pNR R)
theorem fn7_eq (W : CallP) (a0 a1 : PV) (σ : St) (R : Res → St → Prop) : bodyC (algP W) Tryz.prog annF 7 [a0,a1] σ R = fn7 Tryz.prog W a0 a1 σ R := by kernel_rfl
def fn11 (Pr : Program) (W : CallP) (a0 a1 : PV) (σ : St) (R : Res → St → Prop) : Prop :=
callB W 33 [a0,a1] σ (fun a b =>
bF .neq a (nI 0) fun c =>
condW c (
wkR σ (.tuple [nL,a]) b R) (
lF a0 5 b fun a =>
callC W 14 [a0,a1] b fun b c =>
oF (vIndex 1 a b) fun a =>
oF (vField 0 a) fun a =>
oF (vLoad false 1 a c) fun a =>
callB W 34 [a] c (fun a b =>
wkR σ (.tuple [a,(nI 0)]) b R) (pNR R))) (pNR R)
theorem fn11_eq (W : CallP) (a0 a1 : PV) (σ : St) (R : Res → St → Prop) : bodyC (algP W) Tryz.prog annF 11 [a0,a1] σ R = fn11 Tryz.prog W a0 a1 σ R := by kernel_rfl
def fn16 (Pr : Program) (W : CallP) (a0 a1 a2 : PV) (σ : St) (R : Res → St → Prop) : Prop :=
callB W 33 [a0,a1] σ (fun a b =>
bF .neq a (nI 0) fun c =>
condW c (
wkR σ (.tuple [(nI 0),(nI 0),a]) b R) (
lF a0 0 b fun a =>
oF (vIndex 6 a a1) fun a =>
oF (vLoad true 6 a b) fun a =>
oF (vPut 6 (.agg [(nI 0),(nI 0),nL,nL,(nI 0),(.bool false)]) 0 a) fun a =>
pF a 0 fun c =>
bF .neq c (nI 11) fun c =>
condW c (
wkR σ (.tuple [(nI 0),(nI 0),(nI 13)]) b R) (
bF .lss a2 (nI 0) fun c =>
gF c false (fun d =>
pF a 2 fun e =>
oF (vLen .sl e b) fun f =>
bF .geq a2 f fun g =>
d (lookE [(35,(.v a2)),(36,(.loc 10 2)),(37,(.v e)),(38,(.v f)),(39,(.v g))]) b) b (fun b d =>
oF (vPick c (.bool true) (b 39).pv) fun b =>
condW b (
wkR σ (.tuple [(nI 0),(nI 0),(nI 14)]) d R) (
pF a 2 fun b =>
oF (vSubSl 1 b none (some a2)) fun b =>
oF (vLen .sl b d) fun c =>
packW [(0,a0),(2,a2),(11,nI 0),(44,b),(45,c),(46,nI 0),(10,a)] fun a =>
Lfp σ (fun b c e =>
bF .lss (c 46) (c 45) fun f =>
condW f (
oF (vIndex 1 (c 44) (c 46)) fun f =>
oF (vLoad false 1 f e) fun f =>
callB W 15 [(c 0),f] e (fun f g =>
bF .add (c 11) f fun f =>
bF .add (c 46) (nI 1) fun h =>
kF [(0,c 0),(2,c 2),(11,f),(44,c 44),(45,c 45),(46,h),(10,c 10)] b g) (pNR R)) (
pF (c 10) 2 fun b =>
oF (vIndex 1 b (c 2)) fun b =>
oF (vLoad false 1 b e) fun b =>
wkR σ (.tuple [(c 11),b,(nI 0)]) e R)) a d))))) (pNR R)
theorem fn16_eq (W : CallP) (a0 a1 a2 : PV) (σ : St) (R : Res → St → Prop) : bodyC (algP W) Tryz.prog annF 16 [a0,a1,a2] σ R = fn16 Tryz.prog W a0 a1 a2 σ R := by kernel_rfl
def fn20 (Pr : Program) (W : CallP) (a0 a1 : PV) (σ : St) (R : Res → St → Prop) : Prop :=
oF (opC.vBoxAny a0) fun a =>
if 0 < a.1 then newW a.1 a.2 σ fun a b =>
oF (opC.vBoxAny a1) fun c =>
if 0 < c.1 then newW c.1 c.2 b fun b c =>
oF (vLoad false 1 a c) fun d =>
oF (vBin (some .ptr) .eql d .nilptr) fun d =>
condW d (
wkR σ (.tuple [(nI 0),(nI 6)]) c R) (
oF (vLoad false 1 b c) fun d =>
oF (vLen .sl d c) fun d =>
bF .gtr d (nI 1000) fun d =>
condW d (
wkR σ (.tuple [(nI 0),(nI 3)]) c R) (
oF (vLoad false 1 b c) fun d =>
callB W 51 [d,(.func 52 0 [a])] c (fun c d =>
condW c (
wkR σ (.tuple [(nI 0),(nI 13)]) d R) (
oF (vLoad false 1 a d) fun c =>
lF c 5 d fun c =>
callB W 54 [c,(.func 55 0 [b])] d (fun c d =>
bF .lss c (nI 0) fun e =>
condW e (
oF (vLoad false 1 a d) fun e =>
lF e 5 d fun e =>
oF (vLen .sl e d) fun e =>
oF (vLoad false 1 a []) fun f =>
oF (vLoad false 1 a d) fun a =>
lF a 5 d fun a =>
oF (vLoad false 1 b d) fun b =>
callC W 34 [b] d fun b g =>
oF (vBuild [nL] [(0,1,b)]) fun b =>
mF 1 (.agg [nL]) (.agg b) fun b =>
bindS (vAppend 1 24 a (.list .full b) g) fun a b =>
sF f 5 a b fun a =>
wkR σ (.tuple [e,(nI 0)]) a R) (
wkR σ (.tuple [c,(nI 0)]) d R)) (pNR R))) (pNR R))) else False else False
theorem fn20_eq (W : CallP) (a0 a1 : PV) (σ : St) (R : Res → St → Prop) : bodyC (algP W) Tryz.prog annF 20 [a0,a1] σ R = fn20 Tryz.prog W a0 a1 σ R := by kernel_rfl
def fn23 (Pr : Program) (W : CallP) (a0 a1 : PV) (σ : St) (R : Res → St → Prop) : Prop :=
oF (opC.vBoxAny a1) fun a =>
oF (vBin (some .ptr) .eql a0 .nilptr) fun b =>
condW b (
wkR σ (.tuple [nL,(nI 6)]) σ R) (
oF (vPart true 11 a.2 0) fun b =>
callB W 59 [b] σ (fun b c =>
oF (vUn .not b) fun b =>
gF b false (fun d =>
pF a.2 0 fun e =>
oF (vNil a0) fun f =>
oF (vField 0 f) fun g =>
oF (vLoad false 1 g c) fun h =>
callB W 60 [e,h,(.func 61 0 [])] c (fun i j =>
oF (vUn .not i) fun k =>
d (lookE [(15,(.loc 3 0)),(16,(.v e)),(17,(.v a0)),(18,(.v f)),(19,(.v g)),(20,(.v h)),(21,(.v i)),(22,(.v k))]) j) (pNR R)) c (fun c d =>
oF (vPick b (.bool true) (c 22).pv) fun b =>
condW b (
wkR σ (.tuple [nL,(nI 2)]) d R) (
oF (vBuild [.nilptr,nL,nL] [(0,1,a0)]) fun b =>
oF (opC.vBoxAny (.agg b)) fun b =>
if 0 < b.1 then newW b.1 b.2 d fun b c =>
pF a.2 2 fun d =>
oF (vBuild [(nI 0),(nI 0),(nI 0),nL] [(0,1,(nI (-1)))]) fun e =>
mF 4 (.agg [(nI 0),(nI 0),(nI 0),nL]) (.agg e) fun e =>
oF (vBuild [(nI 0),(nI 0),(nI 0),(nI 0),(nI 0),(nI 0),nL,nL] [(0,1,d),(1,1,(nI (-1))),(2,1,(nI (-1))),(7,1,(.list .full e))]) fun d =>
mF 8 (.agg [(nI 0),(nI 0),(nI 0),(nI 0),(nI 0),(nI 0),nL,nL]) (.agg d) fun d =>
sF b 1 (.list .full d) c fun c =>
oF (vPart true 10 a.2 1) fun d =>
mF 10 (.agg [(nI 0),(nI 0),(.str []),(nI 0),(nI 0),(nI 0),nL,nL,nL,(nI 0)]) d fun d =>
sF b 2 (.list .full d) c fun c =>
oF (vPart true 10 a.2 1) fun a =>
callB W 62 [b,a,(nI 0),(nI 0)] c (fun a a =>
lF b 1 a fun c =>
oF (vLen .sl c a) fun c =>
packW [(6,b),(53,c),(54,nI 0)] fun b =>
Lfp σ (fun c d e =>
bF .lss (d 54) (d 53) fun f =>
condW f (
callB W 63 [(d 6),(d 54)] e (fun f f =>
lF (d 6) 1 f fun g =>
oF (vIndex 8 g (d 54)) fun g =>
oF (vField 6 g) fun g =>
oF (vLoad false 1 g f) fun g =>
oF (vLen .sl g f) fun g =>
bF .gtr g (nI 1000) fun g =>
condW g (
wkR σ (.tuple [nL,(nI 3)]) f R) (
bF .add (d 54) (nI 1) fun g =>
kF [(6,d 6),(53,d 53),(54,g)] c f)) (pNR R)) (
lF (d 6) 1 e fun c =>
wkR σ (.tuple [c,(nI 0)]) e R)) b a) (pNR R) else False))) (pNR R))
theorem fn23_eq (W : CallP) (a0 a1 : PV) (σ : St) (R : Res → St → Prop) : bodyC (algP W) Tryz.prog annF 23 [a0,a1] σ R = fn23 Tryz.prog W a0 a1 σ R := by kernel_rfl
def fn15 (Pr : Program) (W : CallP) (a0 a1 : PV) (σ : St) (R : Res → St → Prop) : Prop :=
callB W 33 [a0,a1] σ (fun a b =>
bF .neq a (nI 0) fun a =>
condW a (
wkR σ (nI 0) b R) (
lF a0 1 b fun a =>
oF (vIndex 2 a a1) fun a =>
oF (vField 0 a) fun a =>
oF (vLoad false 1 a b) fun a =>
oF (vLen .sl a b) fun a =>
wkR σ a b R)) (pNR R)
theorem fn15_eq (W : CallP) (a0 a1 : PV) (σ : St) (R : Res → St → Prop) : bodyC (algP W) Tryz.prog annF 15 [a0,a1] σ R = fn15 Tryz.prog W a0 a1 σ R := by kernel_rfl
def fn14 (Pr : Program) (W : CallP) (a0 a1 : PV) (σ : St) (R : Res → St → Prop) : Prop :=
callB W 33 [a0,a1] σ (fun a b =>
bF .neq a (nI 0) fun a =>
condW a (
wkR σ (nI 0) b R) (
lF a0 4 b fun a =>
lF a0 1 b fun c =>
oF (vIndex 2 c a1) fun c =>
oF (vField 1 c) fun c =>
oF (vLoad false 1 c b) fun c =>
oF (vLookup .int (nI 0) false a c b) fun a =>
wkR σ a b R)) (pNR R)
theorem fn14_eq (W : CallP) (a0 a1 : PV) (σ : St) (R : Res → St → Prop) : bodyC (algP W) Tryz.prog annF 14 [a0,a1] σ R = fn14 Tryz.prog W a0 a1 σ R := by kernel_rfl
def fn24 (Pr : Program) (W : CallP) (a0 a1 : PV) (σ : St) (R : Res → St → Prop) : Prop :=
callB W 33 [a0,a1] σ (fun a b =>
bF .neq a (nI 0) fun a =>
gF a false (fun c =>
oF (vNil a0) fun d =>
oF (vField 0 d) fun e =>
oF (vLoad false 1 e b) fun f =>
oF (vIndex 6 f a1) fun g =>
oF (vField 0 g) fun h =>
oF (vLoad false 1 h b) fun i =>
bF .neq i (nI 13) fun j =>
c (lookE [(10,(.v a0)),(11,(.v d)),(12,(.v e)),(13,(.v f)),(14,(.v a1)),(15,(.v g)),(16,(.v h)),(17,(.v i)),(18,(.v j))]) b) b (fun b c =>
oF (vPick a (.bool true) (b 18).pv) fun a =>
condW a (
wkR σ (nI (-1)) c R) (
callB W 64 [a0,a1] c (fun a b =>
wkR σ a b R) (pNR R)))) (pNR R)
theorem fn24_eq (W : CallP) (a0 a1 : PV) (σ : St) (R : Res → St → Prop) : bodyC (algP W) Tryz.prog annF 24 [a0,a1] σ R = fn24 Tryz.prog W a0 a1 σ R := by kernel_rfl
def fn13 (Pr : Program) (W : CallP) (a0 : PV) (σ : St) (R : Res → St → Prop) : Prop :=
oF (vBin (some .ptr) .eql a0 .nilptr) fun a =>
condW a (
wkR σ nL σ R) (
lF a0 5 σ fun a =>
callB W 35 [a] σ (fun a b =>
oF (vLen .sl a b) fun c =>
packW [(3,a),(13,c),(14,nI 0)] fun a =>
Lfp σ (fun c d e =>
bF .lss (d 14) (d 13) fun f =>
condW f (
oF (vIndex 1 (d 3) (d 14)) fun f =>
oF (vField 0 f) fun f =>
oF (vLoad false 1 f e) fun f =>
callB W 34 [f] e (fun f g =>
oF (vIndex 1 (d 3) (d 14)) fun h =>
oF (vField 0 h) fun h =>
oF (vStore 1 h f g) fun f =>
bF .add (d 14) (nI 1) fun g =>
kF [(3,d 3),(13,d 13),(14,g)] c f) (pNR R)) (
wkR σ (d 3) e R)) a b) (pNR R))
theorem fn13_eq (W : CallP) (a0 : PV) (σ : St) (R : Res → St → Prop) : bodyC (algP W) Tryz.prog annF 13 [a0] σ R = fn13 Tryz.prog W a0 σ R := by kernel_rfl
def fn25 (Pr : Program) (W : CallP) (a0 : PV) (σ : St) (R : Res → St → Prop) : Prop :=
oF (vBin (some .ptr) .eql a0 .nilptr) fun a =>
condW a (
wkR σ nL σ R) (
lF a0 6 σ fun a =>
callB W 65 [a] σ (fun a b =>
oF (vLen .sl a b) fun c =>
packW [(3,a),(13,c),(14,nI 0)] fun a =>
Lfp σ (fun c d e =>
bF .lss (d 14) (d 13) fun f =>
condW f (
oF (vIndex 1 (d 3) (d 14)) fun f =>
oF (vLoad false 1 f e) fun f =>
callB W 66 [f] e (fun f g =>
oF (vIndex 1 (d 3) (d 14)) fun h =>
oF (vStore 1 h f g) fun f =>
bF .add (d 14) (nI 1) fun g =>
kF [(3,d 3),(13,d 13),(14,g)] c f) (pNR R)) (
wkR σ (d 3) e R)) a b) (pNR R))
theorem fn25_eq (W : CallP) (a0 : PV) (σ : St) (R : Res → St → Prop) : bodyC (algP W) Tryz.prog annF 25 [a0] σ R = fn25 Tryz.prog W a0 σ R := by kernel_rfl
def fn26 (Pr : Program) (W : CallP) (a0 : PV) (σ : St) (R : Res → St → Prop) : Prop :=
oF (vBin (some .ptr) .eql a0 .nilptr) fun a =>
condW a (
wkR σ nL σ R) (
lF a0 7 σ fun a =>
callB W 67 [a] σ (fun a b =>
wkR σ a b R) (pNR R))
theorem fn26_eq (W : CallP) (a0 : PV) (σ : St) (R : Res → St → Prop) : bodyC (algP W) Tryz.prog annF 26 [a0] σ R = fn26 Tryz.prog W a0 σ R := by kernel_rfl
def fn33 (Pr : Program) (W : CallP) (a0 a1 : PV) (σ : St) (R : Res → St → Prop) : Prop :=
oF (vBin (some .ptr) .eql a0 .nilptr) fun a =>
condW a (
wkR σ (nI 6) σ R) (
bF .lss a1 (nI 0) fun a =>
gF a false (fun b =>
oF (vNil a0) fun c =>
oF (vField 0 c) fun d =>
oF (vLoad false 1 d σ) fun e =>
oF (vLen .sl e σ) fun f =>
bF .geq a1 f fun g =>
b (lookE [(12,(.v a1)),(13,(.v a0)),(14,(.v c)),(15,(.v d)),(16,(.v e)),(17,(.v f)),(18,(.v g))]) σ) σ (fun b c =>
oF (vPick a (.bool true) (b 18).pv) fun a =>
condW a (
wkR σ (nI 11) c R) (
wkR σ (nI 0) c R)))
theorem fn33_eq (W : CallP) (a0 a1 : PV) (σ : St) (R : Res → St → Prop) : bodyC (algP W) Tryz.prog annF 33 [a0,a1] σ R = fn33 Tryz.prog W a0 a1 σ R := by kernel_rfl
end Go.Proofs.YteikomnahelckaaGreatDoor
