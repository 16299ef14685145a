import Derived.KernelRfl
import Derived.Test.YteikomnahelckaaGreatDoorAnn
import Derived.Test.YteikomnahelckaaGreatDoorProg
set_option linter.unusedVariables false
set_option linter.unusedSimpArgs false
namespace Go.Proofs.YteikomnahelckaaGreatDoor
open Go Go.Abs
def fn32 (Pr : Program) (W : CallP) (a0 a1 : PV) (σ : St) (R : Res → St → Prop) : Prop :=
lF a0 1 σ fun a =>
oF (vIndex 2 a a1) fun a =>
oF (vField 1 a) fun a =>
oF (vLoad false 1 a σ) fun a =>
lF a0 4 σ fun b =>
oF (vLookup .int (nI 0) true b a σ) fun b =>
oF (vExtract b 0) fun c =>
oF (vExtract b 1) fun b =>
condW b (
wkR σ c σ R) (
lF a0 5 σ fun b =>
oF (vLen .sl b σ) fun b =>
lF a0 4 σ fun c =>
oF (vMapSet .int c a b σ) fun a =>
lF a0 5 a fun c =>
oF (vBuild [nL] []) fun d =>
mF 1 (.agg [nL]) (.agg d) fun d =>
bindS (vAppend 1 24 c (.list .full d) a) fun a c =>
sF a0 5 a c fun a =>
lF a0 1 a fun c =>
oF (vIndex 2 c a1) fun c =>
oF (vField 0 c) fun c =>
oF (vLoad false 1 c a) fun c =>
oF (vLen .sl c a) fun d =>
packW [(0,a0),(8,b),(9,nL),(59,c),(60,d),(61,nI 0)] fun b =>
Lfp σ (fun c d e =>
bF .lss (d 61) (d 60) fun f =>
condW f (
oF (vIndex 6 (d 59) (d 61)) fun f =>
oF (vLoad true 6 f e) fun f =>
oF (vPut 6 (.agg [(nI 0),(nI 0),(nI 0),(nI 0),(.bool false),(nI 0)]) 0 f) fun f =>
oF (vPart true 6 f 0) fun f =>
callB W 84 [(d 0),f] e (fun f g =>
mF 5 (.agg [(nI 0),(nI 0),(nI 0),(nI 0),(.bool false)]) f fun f =>
bindS (vAppend 5 40 (d 9) (.list .full f) g) fun f g =>
bF .add (d 61) (nI 1) fun h =>
kF [(0,d 0),(8,d 8),(9,f),(59,d 59),(60,d 60),(61,h)] c g) (pNR R)) (
lF (d 0) 5 e fun c =>
oF (vIndex 1 c (d 8)) fun c =>
oF (vField 0 c) fun c =>
oF (vStore 1 c (d 9) e) fun c =>
wkR σ (d 8) c R)) b a)
theorem fn32_eq (W : CallP) (a0 a1 : PV) (σ : St) (R : Res → St → Prop) : bodyC (algP W) Tryz.prog annF 32 [a0,a1] σ R = fn32 Tryz.prog W a0 a1 σ R := by kernel_rfl
def fn33 (Pr : Program) (W : CallP) (a0 a1 : PV) (σ : St) (R : Res → St → Prop) : Prop :=
oF (vBin (some .ptr) .eql a0 .nilptr) fun a =>
condW a (
wkR σ (nI 6) σ R) (
bF .lss a1 (nI 0) fun a =>
gF a false (fun b =>
oF (vNil a0) fun c =>
oF (vField 0 c) fun d =>
oF (vLoad false 1 d σ) fun e =>
oF (vLen .sl e σ) fun f =>
bF .geq a1 f fun g =>
b (lookE [(12,(.v a1)),(13,(.v a0)),(14,(.v c)),(15,(.v d)),(16,(.v e)),(17,(.v f)),(18,(.v g))]) σ) σ (fun b c =>
oF (vPick a (.bool true) (b 18).pv) fun a =>
condW a (
wkR σ (nI 11) c R) (
wkR σ (nI 0) c R)))
theorem fn33_eq (W : CallP) (a0 a1 : PV) (σ : St) (R : Res → St → Prop) : bodyC (algP W) Tryz.prog annF 33 [a0,a1] σ R = fn33 Tryz.prog W a0 a1 σ R := by kernel_rfl
def fn64 (Pr : Program) (W : CallP) (a0 a1 : PV) (σ : St) (R : Res → St → Prop) : Prop :=
oF (opC.vBoxAny a0) fun a =>
if 0 < a.1 then newW a.1 a.2 σ fun a b =>
oF (opC.vBoxAny a1) fun c =>
if 0 < c.1 then newW c.1 c.2 b fun b c =>
oF (vLoad false 1 a c) fun d =>
lF d 9 c fun d =>
callB W 106 [d,(.func 107 0 [a,b])] c (fun c d =>
bF .geq c (nI 0) fun e =>
condW e (
wkR σ c d R) (
oF (vLoad false 1 a d) fun c =>
lF c 7 d fun c =>
oF (vLen .sl c d) fun c =>
((oF (vLoad false 1 a d) fun e =>
oF (vLoad false 1 a d) fun f =>
oF (vLoad false 1 a d) fun g =>
lF g 7 d fun g =>
oF (vBuild [(nI 0),(nI 0)] []) fun h =>
mF 2 (.agg [(nI 0),(nI 0)]) (.agg h) fun h =>
oF (vLoad false 1 a d) fun i =>
lF i 9 d fun i =>
oF (vLoad false 1 b d) fun j =>
mF 1 (nI 0) j fun j =>
heldW ((apartV (.v a) (blkP g) none && (apartV (.v b) (blkP g) none && true))) (
bindS (vAppend 2 16 g (.list .full h) d) fun g h =>
heldW ((apartV (.v a) (blkP i) none && (apartV (.v b) (blkP i) none && true))) (
bindS (vAppend 1 8 i (.list .full j) h) fun h i =>
oF (vNil e) fun e =>
oF (vField 7 e) fun e =>
heldW ((apartV (.v a) (blkP e) none && (apartV (.v b) (blkP e) none && true))) (
oF (vStore 1 e g i) fun e =>
oF (vNil f) fun f =>
oF (vField 9 f) fun f =>
heldW ((apartV (.v a) (blkP f) none && (apartV (.v b) (blkP f) none && true))) (
oF (vStore 1 f h e) fun e =>
oF (vLoad false 1 a e) fun f =>
oF (vLoad false 1 b e) fun g =>
callB W 109 [f,g] e (fun e f =>
oF (vLoad false 1 a f) fun g =>
oF (vIndex 1 e (nI 0)) fun h =>
oF (vLoad false 1 h f) fun h =>
callB W 32 [g,h] f (fun f g =>
oF (vLoad false 1 a g) fun h =>
oF (vIndex 1 e (nI 1)) fun e =>
oF (vLoad false 1 e g) fun e =>
callB W 32 [h,e] g (fun e g =>
oF (vLoad false 1 a g) fun h =>
lF h 7 g fun h =>
oF (vBuild [(nI 0),(nI 0)] [(0,1,f),(1,1,e)]) fun e =>
oF (vIndex 2 h c) fun f =>
heldW ((apartV (.v a) (blkP f) none && (apartV (.v b) (blkP f) none && true))) (
oF (vStore 2 f (.agg e) g) fun e =>
wkR σ c e R)) (pNR R)) (pNR R)) (pNR R)))))) ∧ (oF (vLoad false 1 a d) fun e =>
oF (vLoad false 1 a d) fun f =>
oF (vLoad false 1 a d) fun g =>
lF g 7 d fun g =>
oF (vBuild [(nI 0),(nI 0)] []) fun h =>
mF 2 (.agg [(nI 0),(nI 0)]) (.agg h) fun h =>
oF (vLoad false 1 a d) fun i =>
oF (vNil i) fun i =>
oF (vField 9 i) fun i =>
oF (vLoad false 1 b d) fun j =>
mF 1 (nI 0) j fun j =>
heldW ((apartV (.v a) (blkP g) none && (apartV (.v b) (blkP g) none && true))) (
bindS (vAppend 2 16 g (.list .full h) d) fun d g =>
oF (vLoad false 1 i g) fun h =>
heldW ((apartV (.v a) (blkP h) none && (apartV (.v b) (blkP h) none && true))) (
bindS (vAppend 1 8 h (.list .full j) g) fun g h =>
oF (vNil e) fun e =>
oF (vField 7 e) fun e =>
heldW ((apartV (.v a) (blkP e) none && (apartV (.v b) (blkP e) none && true))) (
oF (vStore 1 e d h) fun d =>
oF (vNil f) fun e =>
oF (vField 9 e) fun e =>
heldW ((apartV (.v a) (blkP e) none && (apartV (.v b) (blkP e) none && true))) (
oF (vStore 1 e g d) fun d =>
oF (vLoad false 1 a d) fun e =>
oF (vLoad false 1 b d) fun f =>
callB W 109 [e,f] d (fun d e =>
oF (vLoad false 1 a e) fun f =>
oF (vIndex 1 d (nI 0)) fun g =>
oF (vLoad false 1 g e) fun g =>
callB W 32 [f,g] e (fun e f =>
oF (vLoad false 1 a f) fun g =>
oF (vIndex 1 d (nI 1)) fun d =>
oF (vLoad false 1 d f) fun d =>
callB W 32 [g,d] f (fun d f =>
oF (vLoad false 1 a f) fun g =>
lF g 7 f fun g =>
oF (vBuild [(nI 0),(nI 0)] [(0,1,e),(1,1,d)]) fun d =>
oF (vIndex 2 g c) fun e =>
heldW ((apartV (.v a) (blkP e) none && (apartV (.v b) (blkP e) none && true))) (
oF (vStore 2 e (.agg d) f) fun a =>
wkR σ c a R)) (pNR R)) (pNR R)) (pNR R))))))))) (pNR R) else False else False
theorem fn64_eq (W : CallP) (a0 a1 : PV) (σ : St) (R : Res → St → Prop) : bodyC (algP W) Tryz.prog annF 64 [a0,a1] σ R = fn64 Tryz.prog W a0 a1 σ R := by kernel_rfl
def fn84 (Pr : Program) (W : CallP) (a0 a1 : PV) (σ : St) (R : Res → St → Prop) : Prop :=
oF (opC.vBoxAny a1) fun a =>
lF a0 0 σ fun b =>
pF a.2 5 fun c =>
oF (vIndex 6 b c) fun b =>
oF (vLoad true 6 b σ) fun b =>
oF (vPut 6 (.agg [(nI 0),(nI 0),nL,nL,(nI 0),(.bool false)]) 0 b) fun b =>
pF a.2 0 fun c =>
bF .eql c (nI 8) fun d =>
condW d (
condW d (
pF b 2 fun d =>
oF (vIndex 1 d (nI 0)) fun d =>
oF (vLoad false 1 d σ) fun d =>
callB W 32 [a0,d] σ (fun d e =>
uF a.2 2 d fun d =>
oF (vPart true 5 d 0) fun d =>
oF (vPut 5 (.agg [(nI 0),(nI 0),(nI 0),(nI 0),(.bool false)]) 0 d) fun d =>
wvR σ (resCons (vPart true 5 d 0) (some [])) e R) (pNR R)) (
bF .eql c (nI 10) fun d =>
condW d (
pF a.2 5 fun d =>
callB W 128 [a0,d] σ (fun d e =>
uF a.2 2 d fun d =>
oF (vPart true 5 d 0) fun d =>
oF (vPut 5 (.agg [(nI 0),(nI 0),(nI 0),(nI 0),(.bool false)]) 0 d) fun d =>
wvR σ (resCons (vPart true 5 d 0) (some [])) e R) (pNR R)) (
bF .eql c (nI 11) fun d =>
condW d (
pF a.2 5 fun d =>
callB W 64 [a0,d] σ (fun d e =>
uF a.2 2 d fun d =>
oF (vPart true 5 d 0) fun d =>
oF (vPut 5 (.agg [(nI 0),(nI 0),(nI 0),(nI 0),(.bool false)]) 0 d) fun d =>
wvR σ (resCons (vPart true 5 d 0) (some [])) e R) (pNR R)) (
oF (vPart true 5 a.2 0) fun d =>
oF (vPut 5 (.agg [(nI 0),(nI 0),(nI 0),(nI 0),(.bool false)]) 0 d) fun d =>
wvR σ (resCons (vPart true 5 d 0) (some [])) σ R)))) (
bF .eql c (nI 9) fun d =>
condW d (
pF b 2 fun b =>
oF (vIndex 1 b (nI 0)) fun b =>
oF (vLoad false 1 b σ) fun b =>
callB W 32 [a0,b] σ (fun b d =>
uF a.2 2 b fun b =>
oF (vPart true 5 b 0) fun b =>
oF (vPut 5 (.agg [(nI 0),(nI 0),(nI 0),(nI 0),(.bool false)]) 0 b) fun b =>
wvR σ (resCons (vPart true 5 b 0) (some [])) d R) (pNR R)) (
bF .eql c (nI 10) fun b =>
condW b (
pF a.2 5 fun b =>
callB W 128 [a0,b] σ (fun b d =>
uF a.2 2 b fun b =>
oF (vPart true 5 b 0) fun b =>
oF (vPut 5 (.agg [(nI 0),(nI 0),(nI 0),(nI 0),(.bool false)]) 0 b) fun b =>
wvR σ (resCons (vPart true 5 b 0) (some [])) d R) (pNR R)) (
bF .eql c (nI 11) fun b =>
condW b (
pF a.2 5 fun b =>
callB W 64 [a0,b] σ (fun b c =>
uF a.2 2 b fun b =>
oF (vPart true 5 b 0) fun b =>
oF (vPut 5 (.agg [(nI 0),(nI 0),(nI 0),(nI 0),(.bool false)]) 0 b) fun b =>
wvR σ (resCons (vPart true 5 b 0) (some [])) c R) (pNR R)) (
oF (vPart true 5 a.2 0) fun a =>
oF (vPut 5 (.agg [(nI 0),(nI 0),(nI 0),(nI 0),(.bool false)]) 0 a) fun a =>
wvR σ (resCons (vPart true 5 a 0) (some [])) σ R))))
theorem fn84_eq (W : CallP) (a0 a1 : PV) (σ : St) (R : Res → St → Prop) : bodyC (algP W) Tryz.prog annF 84 [a0,a1] σ R = fn84 Tryz.prog W a0 a1 σ R := by kernel_rfl
def fn107 (Pr : Program) (W : CallP) (a0 a1 a2 : PV) (σ : St) (R : Res → St → Prop) : Prop :=
oF (vLoad false 1 a1 σ) fun a =>
oF (vLoad false 1 a1 σ) fun b =>
oF (vLoad false 1 a1 σ) fun c =>
oF (vLoad false 1 a2 σ) fun d =>
callC W 109 [b,a0] σ fun b e =>
callC W 109 [c,d] e fun c d =>
callB W 108 [a,b,c] d (fun a b =>
wkR σ a b R) (pNR R)
theorem fn107_eq (W : CallP) (a0 a1 a2 : PV) (σ : St) (R : Res → St → Prop) : bodyC (algP W) Tryz.prog annF 107 [a0,a1,a2] σ R = fn107 Tryz.prog W a0 a1 a2 σ R := by kernel_rfl
def fn108 (Pr : Program) (W : CallP) (a0 a1 a2 : PV) (σ : St) (R : Res → St → Prop) : Prop :=
oF (opC.vBoxAny a0) fun a =>
if 0 < a.1 then newW a.1 a.2 σ fun a b =>
callB W 188 [a1,a2,(.func 189 0 [a])] b (fun a b =>
wkR σ a b R) (pNR R) else False
theorem fn108_eq (W : CallP) (a0 a1 a2 : PV) (σ : St) (R : Res → St → Prop) : bodyC (algP W) Tryz.prog annF 108 [a0,a1,a2] σ R = fn108 Tryz.prog W a0 a1 a2 σ R := by kernel_rfl
def fn109 (Pr : Program) (W : CallP) (a0 a1 : PV) (σ : St) (R : Res → St → Prop) : Prop :=
lF a0 0 σ fun a =>
oF (vIndex 6 a a1) fun a =>
oF (vField 2 a) fun a =>
oF (vLoad false 1 a σ) fun a =>
lF a0 2 σ fun b =>
oF (vLookup .int (nI 0) false b a1 σ) fun b =>
oF (vLen .sl a σ) fun c =>
bF .sub c (nI 1) fun c =>
oF (vIndex 1 a c) fun a =>
oF (vLoad false 1 a σ) fun a =>
oF (vBuildSl 1 (List.replicate 2 (nI 0)) [(0,b),(1,a)]) fun a =>
wkR σ (.list .full a) σ R
theorem fn109_eq (W : CallP) (a0 a1 : PV) (σ : St) (R : Res → St → Prop) : bodyC (algP W) Tryz.prog annF 109 [a0,a1] σ R = fn109 Tryz.prog W a0 a1 σ R := by kernel_rfl
def fn128 (Pr : Program) (W : CallP) (a0 a1 : PV) (σ : St) (R : Res → St → Prop) : Prop :=
oF (opC.vBoxAny a0) fun a =>
if 0 < a.1 then newW a.1 a.2 σ fun a b =>
oF (opC.vBoxAny a1) fun c =>
if 0 < c.1 then newW c.1 c.2 b fun b c =>
oF (vLoad false 1 a c) fun d =>
lF d 8 c fun d =>
callB W 106 [d,(.func 195 0 [a,b])] c (fun c d =>
bF .geq c (nI 0) fun e =>
condW e (
wkR σ c d R) (
oF (vLoad false 1 a d) fun c =>
lF c 6 d fun c =>
oF (vLen .sl c d) fun c =>
((oF (vLoad false 1 a d) fun e =>
oF (vLoad false 1 a d) fun f =>
oF (vLoad false 1 a d) fun g =>
lF g 6 d fun g =>
mF 1 nL nL fun h =>
oF (vLoad false 1 a d) fun i =>
lF i 8 d fun i =>
oF (vLoad false 1 b d) fun j =>
mF 1 (nI 0) j fun j =>
heldW ((apartV (.v a) (blkP g) none && (apartV (.v b) (blkP g) none && true))) (
bindS (vAppend 1 24 g (.list .full h) d) fun g h =>
heldW ((apartV (.v a) (blkP i) none && (apartV (.v b) (blkP i) none && true))) (
bindS (vAppend 1 8 i (.list .full j) h) fun h i =>
oF (vNil e) fun e =>
oF (vField 6 e) fun e =>
heldW ((apartV (.v a) (blkP e) none && (apartV (.v b) (blkP e) none && true))) (
oF (vStore 1 e g i) fun e =>
oF (vNil f) fun f =>
oF (vField 8 f) fun f =>
heldW ((apartV (.v a) (blkP f) none && (apartV (.v b) (blkP f) none && true))) (
oF (vStore 1 f h e) fun e =>
oF (vLoad false 1 a e) fun f =>
lF f 3 e fun f =>
oF (vLoad false 1 b e) fun g =>
oF (vLookup .int nL false f g e) fun f =>
oF (vLen .sl f e) fun g =>
packW [(2,a),(5,c),(6,nL),(47,f),(48,g),(49,nI 0)] fun f =>
Lfp σ (fun g h i =>
bF .lss (h 49) (h 48) fun j =>
condW j (
oF (vIndex 1 (h 47) (h 49)) fun j =>
oF (vLoad false 1 j i) fun j =>
oF (vLoad false 1 (h 2) i) fun k =>
callB W 32 [k,j] i (fun j k =>
mF 1 (nI 0) j fun j =>
heldW ((apartV (.v (h 2)) (blkP (h 6)) none && (apartV (.v PV.any) (blkP (h 6)) none && true))) (
bindS (vAppend 1 8 (h 6) (.list .full j) k) fun j k =>
bF .add (h 49) (nI 1) fun l =>
kF [(2,h 2),(5,h 5),(6,j),(47,h 47),(48,h 48),(49,l)] g k)) (pNR R)) (
oF (vLoad false 1 (h 2) i) fun g =>
lF g 6 i fun g =>
oF (vIndex 1 g (h 5)) fun g =>
heldW ((apartV (.v (h 2)) (blkP g) none && (apartV (.v PV.any) (blkP g) none && true))) (
oF (vStore 1 g (h 6) i) fun g =>
wkR σ (h 5) g R))) f e))))) ∧ (oF (vLoad false 1 a d) fun e =>
oF (vLoad false 1 a d) fun f =>
oF (vLoad false 1 a d) fun g =>
lF g 6 d fun g =>
mF 1 nL nL fun h =>
oF (vLoad false 1 a d) fun i =>
oF (vNil i) fun i =>
oF (vField 8 i) fun i =>
oF (vLoad false 1 b d) fun j =>
mF 1 (nI 0) j fun j =>
heldW ((apartV (.v a) (blkP g) none && (apartV (.v b) (blkP g) none && true))) (
bindS (vAppend 1 24 g (.list .full h) d) fun d g =>
oF (vLoad false 1 i g) fun h =>
heldW ((apartV (.v a) (blkP h) none && (apartV (.v b) (blkP h) none && true))) (
bindS (vAppend 1 8 h (.list .full j) g) fun g h =>
oF (vNil e) fun e =>
oF (vField 6 e) fun e =>
heldW ((apartV (.v a) (blkP e) none && (apartV (.v b) (blkP e) none && true))) (
oF (vStore 1 e d h) fun d =>
oF (vNil f) fun e =>
oF (vField 8 e) fun e =>
heldW ((apartV (.v a) (blkP e) none && (apartV (.v b) (blkP e) none && true))) (
oF (vStore 1 e g d) fun d =>
oF (vLoad false 1 a d) fun e =>
lF e 3 d fun e =>
oF (vLoad false 1 b d) fun b =>
oF (vLookup .int nL false e b d) fun b =>
oF (vLen .sl b d) fun e =>
packW [(2,a),(5,c),(6,nL),(47,b),(48,e),(49,nI 0)] fun a =>
Lfp σ (fun b c e =>
bF .lss (c 49) (c 48) fun f =>
condW f (
oF (vIndex 1 (c 47) (c 49)) fun f =>
oF (vLoad false 1 f e) fun f =>
oF (vLoad false 1 (c 2) e) fun g =>
callB W 32 [g,f] e (fun f g =>
mF 1 (nI 0) f fun f =>
heldW ((apartV (.v (c 2)) (blkP (c 6)) none && (apartV (.v PV.any) (blkP (c 6)) none && true))) (
bindS (vAppend 1 8 (c 6) (.list .full f) g) fun f g =>
bF .add (c 49) (nI 1) fun h =>
kF [(2,c 2),(5,c 5),(6,f),(47,c 47),(48,c 48),(49,h)] b g)) (pNR R)) (
oF (vLoad false 1 (c 2) e) fun b =>
lF b 6 e fun b =>
oF (vIndex 1 b (c 5)) fun b =>
heldW ((apartV (.v (c 2)) (blkP b) none && (apartV (.v PV.any) (blkP b) none && true))) (
oF (vStore 1 b (c 6) e) fun b =>
wkR σ (c 5) b R))) a d)))))))) (pNR R) else False else False
theorem fn128_eq (W : CallP) (a0 a1 : PV) (σ : St) (R : Res → St → Prop) : bodyC (algP W) Tryz.prog annF 128 [a0,a1] σ R = fn128 Tryz.prog W a0 a1 σ R := by kernel_rfl
def fn188 (Pr : Program) (W : CallP) (a0 a1 a2 : PV) (σ : St) (R : Res → St → Prop) : Prop :=
oF (vLen .sl a0 σ) fun a =>
oF (vLen .sl a1 σ) fun b =>
bF .neq a b fun a =>
condW a (
wkR σ (.bool false) σ R) (
oF (vLen .sl a0 σ) fun a =>
packW [(1,a1),(2,a2),(15,a0),(16,a),(17,nI 0)] fun a =>
Lfp σ (fun b c d =>
bF .lss (c 17) (c 16) fun e =>
condW e (
oF (vIndex 1 (c 15) (c 17)) fun e =>
oF (vLoad false 1 e d) fun e =>
oF (vIndex 1 (c 1) (c 17)) fun f =>
oF (vLoad false 1 f d) fun f =>
callG (algP W) Pr false (c 2) [e,f] d (fun e f =>
oF (vUn .not e) fun e =>
condW e (
wkR σ (.bool false) f R) (
bF .add (c 17) (nI 1) fun e =>
kF [(1,c 1),(2,c 2),(15,c 15),(16,c 16),(17,e)] b f)) (pNR R)) (
wkR σ (.bool true) d R)) a σ)
theorem fn188_eq (W : CallP) (a0 a1 a2 : PV) (σ : St) (R : Res → St → Prop) : bodyC (algP W) Tryz.prog annF 188 [a0,a1,a2] σ R = fn188 Tryz.prog W a0 a1 a2 σ R := by kernel_rfl
def fn189 (Pr : Program) (W : CallP) (a0 a1 a2 : PV) (σ : St) (R : Res → St → Prop) : Prop :=
oF (vLoad false 1 a2 σ) fun a =>
lF a 1 σ fun a =>
oF (vIndex 2 a a0) fun a =>
oF (vField 1 a) fun a =>
oF (vLoad false 1 a σ) fun a =>
oF (vLoad false 1 a2 σ) fun b =>
lF b 1 σ fun b =>
oF (vIndex 2 b a1) fun b =>
oF (vField 1 b) fun b =>
oF (vLoad false 1 b σ) fun b =>
bF .eql a b fun a =>
wkR σ a σ R
theorem fn189_eq (W : CallP) (a0 a1 a2 : PV) (σ : St) (R : Res → St → Prop) : bodyC (algP W) Tryz.prog annF 189 [a0,a1,a2] σ R = fn189 Tryz.prog W a0 a1 a2 σ R := by kernel_rfl
def fn195 (Pr : Program) (W : CallP) (a0 a1 a2 : PV) (σ : St) (R : Res → St → Prop) : Prop :=
oF (vLoad false 1 a1 σ) fun a =>
oF (vLoad false 1 a1 σ) fun b =>
lF b 3 σ fun b =>
oF (vLookup .int nL false b a0 σ) fun b =>
oF (vLoad false 1 a1 σ) fun c =>
lF c 3 σ fun c =>
oF (vLoad false 1 a2 σ) fun d =>
oF (vLookup .int nL false c d σ) fun c =>
callB W 108 [a,b,c] σ (fun a b =>
wkR σ a b R) (pNR R)
theorem fn195_eq (W : CallP) (a0 a1 a2 : PV) (σ : St) (R : Res → St → Prop) : bodyC (algP W) Tryz.prog annF 195 [a0,a1,a2] σ R = fn195 Tryz.prog W a0 a1 a2 σ R := by kernel_rfl
end Go.Proofs.YteikomnahelckaaGreatDoor
