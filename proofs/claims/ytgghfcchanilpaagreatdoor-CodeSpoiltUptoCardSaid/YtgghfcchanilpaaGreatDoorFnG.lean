import Derived.KernelRfl
import Derived.Test.YtgghfcchanilpaaGreatDoorAnn
import Derived.Test.YtgghfcchanilpaaGreatDoorProg
set_option linter.unusedVariables false
set_option linter.unusedSimpArgs false
namespace Go.Proofs.YtgghfcchanilpaaGreatDoor
open Go Go.Abs
def fn11 (Pr : Program) (W : CallP) (a0 a1 a2 : PV) (σ : St) (R : Res → St → Prop) : Prop :=
oF (opC.vBoxAny a0) fun a =>
callB W 12 [] σ (fun b c =>
oF (vUn .not b) fun b =>
gF b false (fun d =>
oF (vPart true 10 a.2 0) fun e =>
callB W 23 [e] c (fun f g =>
oF (vUn .not f) fun h =>
d (lookE [(18,(.v e)),(19,(.v f)),(20,(.v h))]) g) (pNR R)) c (fun c d =>
oF (vPick b (.bool true) (c 20).pv) fun b =>
gF b false (fun c =>
bF .eql a2 (.int .u8 0) fun e =>
c (lookE [(23,(.v a2)),(24,(.v e))]) d) d (fun c d =>
oF (vPick b (.bool true) (c 24).pv) fun b =>
condW b (
callB W 12 [] d (fun b c =>
wkR σ b c R) (pNR R)) (
oF (vPart true 10 a.2 0) fun a =>
callB W 29 [a] d (fun a b =>
oF (vExtract a 0) fun c =>
oF (vExtract a 1) fun a =>
bF .neq a (nI 0) fun a =>
condW a (
wkR σ (.bool true) b R) (
oF (vConv .i64 a1) fun a =>
oF (vLen .str c b) fun d =>
bF .rem a d fun a =>
bindS (vToBytes 23 c b) fun b d =>
oF (vIndex 1 b a) fun e =>
oF (vLoad false 1 e d) fun e =>
bF .xor e a2 fun e =>
oF (vIndex 1 b a) fun f =>
oF (vStore 1 f e d) fun d =>
oF (vToStr b d) fun e =>
callB W 32 [e] d (fun d e =>
oF (vExtract d 0) fun f =>
oF (vExtract d 1) fun d =>
oF (vPut 10 (.agg [nL,nL,nL,nL,nL,nL,nL,nL,nL,nL]) 0 f) fun f =>
oF (vSubStr c none (some a)) fun f =>
callB W 32 [f] e (fun e f =>
oF (vExtract e 0) fun g =>
oF (vExtract e 1) fun e =>
oF (vPut 10 (.agg [nL,nL,nL,nL,nL,nL,nL,nL,nL,nL]) 0 g) fun g =>
bF .eql d (nI 15) fun g =>
gF g false (fun h =>
bF .eql d (nI 13) fun i =>
h (lookE [(64,(.v d)),(65,(.v i))]) f) f (fun d f =>
oF (vPick g (.bool true) (d 65).pv) fun d =>
gF d false (fun g =>
oF (vToStr b f) fun h =>
callB W 35 [h] f (fun i j =>
g (lookE [(68,(.v b)),(69,(.v h)),(70,(.v i))]) j) (pNR R)) f (fun b f =>
oF (vPick d (.bool true) (b 70).pv) fun b =>
gF b true (fun d =>
bF .eql e (nI 16) fun g =>
d (lookE [(73,(.v e)),(74,(.v g)),(75,(.v g))]) f) f (fun d f =>
gF (d 75).pv false (fun g =>
bF .eql e (nI 15) fun h =>
g (lookE [(76,(.v e)),(77,(.v h))]) f) f (fun e f =>
gF b true (fun g =>
oF (vPick (d 75).pv (.bool true) (e 77).pv) fun d =>
g (lookE [(78,(.v d)),(79,(.v d))]) f) f (fun d e =>
gF (d 79).pv false (fun f =>
oF (vSubStr c none (some a)) fun g =>
callB W 35 [g] e (fun h i =>
f (lookE [(80,(.v c)),(81,(.v a)),(82,(.v g)),(83,(.v h))]) i) (pNR R)) e (fun a c =>
gF b true (fun e =>
oF (vPick (d 79).pv (.bool true) (a 83).pv) fun a =>
e (lookE [(84,(.v a))]) c) c (fun a c =>
oF (vPick b (a 84).pv (.bool false)) fun a =>
wkR σ a c R)))))))) (pNR R)) (pNR R))) (pNR R))))) (pNR R)
theorem fn11_eq (W : CallP) (a0 a1 a2 : PV) (σ : St) (R : Res → St → Prop) : bodyC (algP W) Tryz.prog annF 11 [a0,a1,a2] σ R = fn11 Tryz.prog W a0 a1 a2 σ R := by kernel_rfl
def fn29 (Pr : Program) (W : CallP) (a0 : PV) (σ : St) (R : Res → St → Prop) : Prop :=
oF (opC.vBoxAny a0) fun a =>
oF (vPart true 10 a.2 0) fun b =>
callB W 24 [b] σ (fun b c =>
oF (vPut 2 (.agg [(nI 0),(nI 0)]) 0 b) fun b =>
pF b 1 fun d =>
bF .neq d (nI 0) fun d =>
condW d (
pF b 1 fun b =>
wkR σ (.tuple [(.str []),b]) c R) (
oF (vBuildSl 1 (List.replicate 4 (.int .u8 0)) [(0,(.int .u8 69)),(1,(.int .u8 78)),(2,(.int .u8 86)),(3,(.int .u8 49))]) fun b =>
markW (.list .full b) fun b =>
oF (vBuild [nL] [(0,1,(.list .full b))]) fun b =>
oF (opC.vBoxAny (.agg b)) fun b =>
if 0 < b.1 then newW b.1 b.2 c fun b c =>
oF (vPart true 10 a.2 0) fun a =>
callB W 77 [b,a] c (fun a a =>
lF b 0 a fun c =>
lF b 0 a fun d =>
callC W 79 [d] a fun d _ =>
callC W 78 [d] a fun d _ =>
bindS (vAppendT 23 1 1 c d a) fun a c =>
sF b 0 a c fun a =>
lF b 0 a fun c =>
oF (vLen .sl c a) fun c =>
bF .gtr c (nI 1048576) fun c =>
condW c (
wkR σ (.tuple [(.str []),(nI 3)]) a R) (
lF b 0 a fun b =>
oF (vToStr b a) fun b =>
wkR σ (.tuple [b,(nI 0)]) a R)) (pNR R) else False)) (pNR R)
theorem fn29_eq (W : CallP) (a0 : PV) (σ : St) (R : Res → St → Prop) : bodyC (algP W) Tryz.prog annF 29 [a0] σ R = fn29 Tryz.prog W a0 σ R := by kernel_rfl
def fn31 (Pr : Program) (W : CallP) (a0 : PV) (σ : St) (R : Res → St → Prop) : Prop :=
CutW σ (fun a =>
packW [(0,a0),(3,(.int .u32 2166136261)),(4,nI 0)] fun b =>
Lfp σ (fun c d e =>
oF (vLen .str (d 0) e) fun f =>
bF .lss (d 4) f fun f =>
condW f (
oF (vStrAt (d 0) (d 4)) fun f =>
oF (vConv .u32 f) fun f =>
bF .xor (d 3) f fun f =>
bF .mul f (.int .u32 16777619) fun f =>
bF .add (d 4) (nI 1) fun g =>
kF [(0,d 0),(3,f),(4,g)] c e) (
kF [(3,d 3)] a e)) b σ) (fun a b =>
wkR σ (a 3) b R)
theorem fn31_eq (W : CallP) (a0 : PV) (σ : St) (R : Res → St → Prop) : bodyC (algP W) Tryz.prog annF 31 [a0] σ R = fn31 Tryz.prog W a0 σ R := by kernel_rfl
def fn35 (Pr : Program) (W : CallP) (a0 : PV) (σ : St) (R : Res → St → Prop) : Prop :=
oF (vLen .str a0 σ) fun a =>
bF .lss a (nI 8) fun a =>
condW a (
wkR σ (.bool false) σ R) (
oF (vLen .str a0 σ) fun a =>
bF .sub a (nI 4) fun a =>
oF (vSubStr a0 none (some a)) fun a =>
callB W 31 [a] σ (fun a b =>
oF (vLen .str a0 b) fun c =>
bF .sub c (nI 4) fun c =>
oF (vSubStr a0 (some c) none) fun c =>
oF (vConv .u8 a) fun d =>
bF .shr a (.int .u64 8) fun e =>
oF (vConv .u8 e) fun e =>
bF .shr a (.int .u64 16) fun f =>
oF (vConv .u8 f) fun f =>
bF .shr a (.int .u64 24) fun a =>
oF (vConv .u8 a) fun a =>
oF (vBuildSl 1 (List.replicate 4 (.int .u8 0)) [(0,d),(1,e),(2,f),(3,a)]) fun a =>
oF (vToStr (.list .full a) b) fun a =>
bF .eql c a fun a =>
wkR σ a b R) (pNR R))
theorem fn35_eq (W : CallP) (a0 : PV) (σ : St) (R : Res → St → Prop) : bodyC (algP W) Tryz.prog annF 35 [a0] σ R = fn35 Tryz.prog W a0 σ R := by kernel_rfl
def fn77 (Pr : Program) (W : CallP) (a0 a1 : PV) (σ : St) (R : Res → St → Prop) : Prop :=
oF (opC.vBoxAny a0) fun a =>
if 0 < a.1 then newW a.1 a.2 σ fun a b =>
oF (opC.vBoxAny a1) fun c =>
oF (vLoad false 1 a b) fun d =>
pF c.2 0 fun e =>
callB W 142 [d,e,(.func 143 0 [a])] b (fun b b =>
oF (vLoad false 1 a b) fun d =>
pF c.2 1 fun e =>
oF (vLoad false 1 a b) fun f =>
callB W 146 [d,e,(.func 147 1 [f])] b (fun b b =>
oF (vLoad false 1 a b) fun d =>
pF c.2 2 fun e =>
callB W 148 [d,e,(.func 149 0 [a])] b (fun b b =>
oF (vLoad false 1 a b) fun d =>
pF c.2 3 fun e =>
oF (vLoad false 1 a b) fun f =>
callB W 151 [d,e,(.func 152 1 [f])] b (fun b b =>
oF (vLoad false 1 a b) fun d =>
pF c.2 4 fun e =>
oF (vLoad false 1 a b) fun f =>
callB W 153 [d,e,(.func 154 1 [f])] b (fun b b =>
oF (vLoad false 1 a b) fun d =>
pF c.2 5 fun e =>
oF (vLoad false 1 a b) fun f =>
callB W 146 [d,e,(.func 147 1 [f])] b (fun b b =>
oF (vLoad false 1 a b) fun d =>
pF c.2 6 fun e =>
oF (vLoad false 1 a b) fun f =>
callB W 146 [d,e,(.func 147 1 [f])] b (fun b b =>
oF (vLoad false 1 a b) fun d =>
pF c.2 7 fun e =>
oF (vLoad false 1 a b) fun f =>
callB W 155 [d,e,(.func 156 1 [f])] b (fun b b =>
oF (vLoad false 1 a b) fun d =>
pF c.2 8 fun e =>
callB W 157 [d,e,(.func 158 0 [a])] b (fun b b =>
oF (vLoad false 1 a b) fun d =>
pF c.2 9 fun c =>
callB W 160 [d,c,(.func 161 0 [a])] b (fun a a =>
wkR σ (.tuple []) a R) (pNR R)) (pNR R)) (pNR R)) (pNR R)) (pNR R)) (pNR R)) (pNR R)) (pNR R)) (pNR R)) (pNR R) else False
theorem fn77_eq (W : CallP) (a0 a1 : PV) (σ : St) (R : Res → St → Prop) : bodyC (algP W) Tryz.prog annF 77 [a0,a1] σ R = fn77 Tryz.prog W a0 a1 σ R := by kernel_rfl
def fn78 (Pr : Program) (W : CallP) (a0 : PV) (σ : St) (R : Res → St → Prop) : Prop :=
oF (vConv .u8 a0) fun a =>
bF .shr a0 (.int .u64 8) fun b =>
oF (vConv .u8 b) fun b =>
bF .shr a0 (.int .u64 16) fun c =>
oF (vConv .u8 c) fun c =>
bF .shr a0 (.int .u64 24) fun d =>
oF (vConv .u8 d) fun d =>
oF (vBuildSl 1 (List.replicate 4 (.int .u8 0)) [(0,a),(1,b),(2,c),(3,d)]) fun a =>
wkR σ (.list .full a) σ R
theorem fn78_eq (W : CallP) (a0 : PV) (σ : St) (R : Res → St → Prop) : bodyC (algP W) Tryz.prog annF 78 [a0] σ R = fn78 Tryz.prog W a0 σ R := by kernel_rfl
def fn79 (Pr : Program) (W : CallP) (a0 : PV) (σ : St) (R : Res → St → Prop) : Prop :=
CutW σ (fun a =>
oF (vLen .sl a0 σ) fun b =>
packW [(3,(.int .u32 2166136261)),(6,a0),(7,b),(8,nI 0)] fun b =>
Lfp σ (fun c d e =>
bF .lss (d 8) (d 7) fun f =>
condW f (
oF (vIndex 1 (d 6) (d 8)) fun f =>
oF (vLoad false 1 f e) fun f =>
oF (vConv .u32 f) fun f =>
bF .xor (d 3) f fun f =>
bF .mul f (.int .u32 16777619) fun f =>
bF .add (d 8) (nI 1) fun g =>
kF [(3,f),(6,d 6),(7,d 7),(8,g)] c e) (
kF [(3,d 3)] a e)) b σ) (fun a b =>
wkR σ (a 3) b R)
theorem fn79_eq (W : CallP) (a0 : PV) (σ : St) (R : Res → St → Prop) : bodyC (algP W) Tryz.prog annF 79 [a0] σ R = fn79 Tryz.prog W a0 σ R := by kernel_rfl
def fn142 (Pr : Program) (W : CallP) (a0 a1 a2 : PV) (σ : St) (R : Res → St → Prop) : Prop :=
oF (vLen .sl a1 σ) fun a =>
callB W 150 [a0,a] σ (fun a a =>
oF (vLen .sl a1 a) fun b =>
packW [(2,a2),(12,a1),(13,b),(14,nI 0)] fun b =>
Lfp σ (fun c d e =>
bF .lss (d 14) (d 13) fun f =>
condW f (
oF (vIndex 1 (d 12) (d 14)) fun f =>
oF (vLoad true 1 f e) fun f =>
uF (.agg [nL]) 0 f fun f =>
oF (vPart true 1 f 0) fun f =>
callG (algP W) Pr false (d 2) [f] e (fun f f =>
bF .add (d 14) (nI 1) fun g =>
kF [(2,d 2),(12,d 12),(13,d 13),(14,g)] c f) (pNR R)) (
wkR σ (.tuple []) e R)) b a) (pNR R)
theorem fn142_eq (W : CallP) (a0 a1 a2 : PV) (σ : St) (R : Res → St → Prop) : bodyC (algP W) Tryz.prog annF 142 [a0,a1,a2] σ R = fn142 Tryz.prog W a0 a1 a2 σ R := by kernel_rfl
def fn143 (Pr : Program) (W : CallP) (a0 a1 : PV) (σ : St) (R : Res → St → Prop) : Prop :=
oF (opC.vBoxAny a0) fun a =>
oF (vLoad false 1 a1 σ) fun b =>
pF a.2 0 fun a =>
oF (vLoad false 1 a1 σ) fun c =>
callB W 144 [b,a,(.func 145 1 [c])] σ (fun a a =>
wkR σ (.tuple []) a R) (pNR R)
theorem fn143_eq (W : CallP) (a0 a1 : PV) (σ : St) (R : Res → St → Prop) : bodyC (algP W) Tryz.prog annF 143 [a0,a1] σ R = fn143 Tryz.prog W a0 a1 σ R := by kernel_rfl
def fn144 (Pr : Program) (W : CallP) (a0 a1 a2 : PV) (σ : St) (R : Res → St → Prop) : Prop :=
oF (vLen .sl a1 σ) fun a =>
callB W 150 [a0,a] σ (fun a a =>
oF (vLen .sl a1 a) fun b =>
packW [(2,a2),(12,a1),(13,b),(14,nI 0)] fun b =>
Lfp σ (fun c d e =>
bF .lss (d 14) (d 13) fun f =>
condW f (
oF (vIndex 5 (d 12) (d 14)) fun f =>
oF (vLoad true 5 f e) fun f =>
oF (vPut 5 (.agg [(nI 0),(nI 0),(nI 0),(nI 0),(.bool false)]) 0 f) fun f =>
oF (vPart true 5 f 0) fun f =>
callG (algP W) Pr false (d 2) [f] e (fun f f =>
bF .add (d 14) (nI 1) fun g =>
kF [(2,d 2),(12,d 12),(13,d 13),(14,g)] c f) (pNR R)) (
wkR σ (.tuple []) e R)) b a) (pNR R)
theorem fn144_eq (W : CallP) (a0 a1 a2 : PV) (σ : St) (R : Res → St → Prop) : bodyC (algP W) Tryz.prog annF 144 [a0,a1,a2] σ R = fn144 Tryz.prog W a0 a1 a2 σ R := by kernel_rfl
def fn145 (Pr : Program) (W : CallP) (a0 a1 : PV) (σ : St) (R : Res → St → Prop) : Prop :=
oF (opC.vBoxAny a1) fun a =>
pF a.2 0 fun b =>
callB W 150 [a0,b] σ (fun b b =>
pF a.2 1 fun c =>
callB W 150 [a0,c] b (fun b b =>
pF a.2 2 fun c =>
callB W 150 [a0,c] b (fun b b =>
pF a.2 3 fun c =>
callB W 150 [a0,c] b (fun b b =>
pF a.2 4 fun a =>
callB W 159 [a0,a] b (fun a a =>
wkR σ (.tuple []) a R) (pNR R)) (pNR R)) (pNR R)) (pNR R)) (pNR R)
theorem fn145_eq (W : CallP) (a0 a1 : PV) (σ : St) (R : Res → St → Prop) : bodyC (algP W) Tryz.prog annF 145 [a0,a1] σ R = fn145 Tryz.prog W a0 a1 σ R := by kernel_rfl
def fn146 (Pr : Program) (W : CallP) (a0 a1 a2 : PV) (σ : St) (R : Res → St → Prop) : Prop :=
oF (vLen .sl a1 σ) fun a =>
callB W 150 [a0,a] σ (fun a a =>
oF (vLen .sl a1 a) fun b =>
packW [(2,a2),(12,a1),(13,b),(14,nI 0)] fun b =>
Lfp σ (fun c d e =>
bF .lss (d 14) (d 13) fun f =>
condW f (
oF (vIndex 1 (d 12) (d 14)) fun f =>
oF (vLoad false 1 f e) fun f =>
callG (algP W) Pr false (d 2) [f] e (fun f f =>
bF .add (d 14) (nI 1) fun g =>
kF [(2,d 2),(12,d 12),(13,d 13),(14,g)] c f) (pNR R)) (
wkR σ (.tuple []) e R)) b a) (pNR R)
theorem fn146_eq (W : CallP) (a0 a1 a2 : PV) (σ : St) (R : Res → St → Prop) : bodyC (algP W) Tryz.prog annF 146 [a0,a1,a2] σ R = fn146 Tryz.prog W a0 a1 a2 σ R := by kernel_rfl
def fn147 (Pr : Program) (W : CallP) (a0 a1 : PV) (σ : St) (R : Res → St → Prop) : Prop :=
callB W 246 [a0,a1,(.func 150 1 [a0])] σ (fun a a =>
wkR σ (.tuple []) a R) (pNR R)
theorem fn147_eq (W : CallP) (a0 a1 : PV) (σ : St) (R : Res → St → Prop) : bodyC (algP W) Tryz.prog annF 147 [a0,a1] σ R = fn147 Tryz.prog W a0 a1 σ R := by kernel_rfl
def fn148 (Pr : Program) (W : CallP) (a0 a1 a2 : PV) (σ : St) (R : Res → St → Prop) : Prop :=
oF (vLen .sl a1 σ) fun a =>
callB W 150 [a0,a] σ (fun a a =>
oF (vLen .sl a1 a) fun b =>
packW [(2,a2),(12,a1),(13,b),(14,nI 0)] fun b =>
Lfp σ (fun c d e =>
bF .lss (d 14) (d 13) fun f =>
condW f (
oF (vIndex 2 (d 12) (d 14)) fun f =>
oF (vLoad true 2 f e) fun f =>
oF (vPut 2 (.agg [(nI 0),(nI 0)]) 0 f) fun f =>
oF (vPart true 2 f 0) fun f =>
callG (algP W) Pr false (d 2) [f] e (fun f f =>
bF .add (d 14) (nI 1) fun g =>
kF [(2,d 2),(12,d 12),(13,d 13),(14,g)] c f) (pNR R)) (
wkR σ (.tuple []) e R)) b a) (pNR R)
theorem fn148_eq (W : CallP) (a0 a1 a2 : PV) (σ : St) (R : Res → St → Prop) : bodyC (algP W) Tryz.prog annF 148 [a0,a1,a2] σ R = fn148 Tryz.prog W a0 a1 a2 σ R := by kernel_rfl
def fn149 (Pr : Program) (W : CallP) (a0 a1 : PV) (σ : St) (R : Res → St → Prop) : Prop :=
oF (opC.vBoxAny a0) fun a =>
oF (vLoad false 1 a1 σ) fun b =>
pF a.2 0 fun c =>
callB W 150 [b,c] σ (fun b b =>
oF (vLoad false 1 a1 b) fun c =>
pF a.2 1 fun a =>
callB W 150 [c,a] b (fun a a =>
wkR σ (.tuple []) a R) (pNR R)) (pNR R)
theorem fn149_eq (W : CallP) (a0 a1 : PV) (σ : St) (R : Res → St → Prop) : bodyC (algP W) Tryz.prog annF 149 [a0,a1] σ R = fn149 Tryz.prog W a0 a1 σ R := by kernel_rfl
def fn150 (Pr : Program) (W : CallP) (a0 a1 : PV) (σ : St) (R : Res → St → Prop) : Prop :=
callB W 247 [a0,a1] σ (fun a a =>
wkR σ (.tuple []) a R) (pNR R)
theorem fn150_eq (W : CallP) (a0 a1 : PV) (σ : St) (R : Res → St → Prop) : bodyC (algP W) Tryz.prog annF 150 [a0,a1] σ R = fn150 Tryz.prog W a0 a1 σ R := by kernel_rfl
def fn151 (Pr : Program) (W : CallP) (a0 a1 a2 : PV) (σ : St) (R : Res → St → Prop) : Prop :=
oF (vLen .sl a1 σ) fun a =>
callB W 150 [a0,a] σ (fun a a =>
oF (vLen .sl a1 a) fun b =>
packW [(2,a2),(12,a1),(13,b),(14,nI 0)] fun b =>
Lfp σ (fun c d e =>
bF .lss (d 14) (d 13) fun f =>
condW f (
oF (vIndex 9 (d 12) (d 14)) fun f =>
oF (vLoad true 9 f e) fun f =>
oF (vPut 9 (.agg [(nI 0),(nI 0),(nI 0),(nI 0),(nI 0),(nI 0),(nI 0),(nI 0),nL]) 0 f) fun f =>
oF (vPart true 9 f 0) fun f =>
callG (algP W) Pr false (d 2) [f] e (fun f f =>
bF .add (d 14) (nI 1) fun g =>
kF [(2,d 2),(12,d 12),(13,d 13),(14,g)] c f) (pNR R)) (
wkR σ (.tuple []) e R)) b a) (pNR R)
theorem fn151_eq (W : CallP) (a0 a1 a2 : PV) (σ : St) (R : Res → St → Prop) : bodyC (algP W) Tryz.prog annF 151 [a0,a1,a2] σ R = fn151 Tryz.prog W a0 a1 a2 σ R := by kernel_rfl
def fn152 (Pr : Program) (W : CallP) (a0 a1 : PV) (σ : St) (R : Res → St → Prop) : Prop :=
oF (opC.vBoxAny a0) fun a =>
if 0 < a.1 then newW a.1 a.2 σ fun a b =>
oF (opC.vBoxAny a1) fun c =>
CutW σ (fun d =>
pF c.2 0 fun e =>
pF c.2 1 fun f =>
pF c.2 2 fun g =>
pF c.2 3 fun h =>
pF c.2 4 fun i =>
pF c.2 5 fun j =>
pF c.2 6 fun k =>
pF c.2 7 fun l =>
oF (vBuildSl 1 (List.replicate 8 (nI 0)) [(0,e),(1,f),(2,g),(3,h),(4,i),(5,j),(6,k),(7,l)]) fun e =>
oF (vLen .sl (.list .full e) b) fun f =>
packW [(2,a),(22,(.list .full e)),(23,f),(24,nI 0),(3,c.2)] fun a =>
Lfp σ (fun c e f =>
bF .lss (e 24) (e 23) fun g =>
condW g (
oF (vIndex 1 (e 22) (e 24)) fun g =>
oF (vLoad false 1 g f) fun g =>
oF (vLoad false 1 (e 2) f) fun h =>
callB W 150 [h,g] f (fun g g =>
bF .add (e 24) (nI 1) fun h =>
kF [(2,e 2),(22,e 22),(23,e 23),(24,h),(3,e 3)] c g) (pNR R)) (
kF [(2,e 2),(3,e 3)] d f)) a b) (fun a b =>
oF (vLoad false 1 (a 2) b) fun c =>
pF (a 3) 8 fun d =>
callB W 248 [c,d,(.func 249 0 [(a 2)])] b (fun a a =>
wkR σ (.tuple []) a R) (pNR R)) else False
theorem fn152_eq (W : CallP) (a0 a1 : PV) (σ : St) (R : Res → St → Prop) : bodyC (algP W) Tryz.prog annF 152 [a0,a1] σ R = fn152 Tryz.prog W a0 a1 σ R := by kernel_rfl
def fn153 (Pr : Program) (W : CallP) (a0 a1 a2 : PV) (σ : St) (R : Res → St → Prop) : Prop :=
oF (vLen .sl a1 σ) fun a =>
callB W 150 [a0,a] σ (fun a a =>
oF (vLen .sl a1 a) fun b =>
packW [(2,a2),(12,a1),(13,b),(14,nI 0)] fun b =>
Lfp σ (fun c d e =>
bF .lss (d 14) (d 13) fun f =>
condW f (
oF (vIndex 12 (d 12) (d 14)) fun f =>
oF (vLoad true 12 f e) fun f =>
oF (vPut 12 (.agg [(nI 0),(nI 0),(nI 0),(nI 0),(nI 0),(nI 0),(nI 0),(nI 0),(nI 0),(nI 0),(nI 0),(nI 0)]) 0 f) fun f =>
oF (vPart true 12 f 0) fun f =>
callG (algP W) Pr false (d 2) [f] e (fun f f =>
bF .add (d 14) (nI 1) fun g =>
kF [(2,d 2),(12,d 12),(13,d 13),(14,g)] c f) (pNR R)) (
wkR σ (.tuple []) e R)) b a) (pNR R)
theorem fn153_eq (W : CallP) (a0 a1 a2 : PV) (σ : St) (R : Res → St → Prop) : bodyC (algP W) Tryz.prog annF 153 [a0,a1,a2] σ R = fn153 Tryz.prog W a0 a1 a2 σ R := by kernel_rfl
def fn154 (Pr : Program) (W : CallP) (a0 a1 : PV) (σ : St) (R : Res → St → Prop) : Prop :=
oF (opC.vBoxAny a1) fun a =>
pF a.2 0 fun b =>
callB W 150 [a0,b] σ (fun b b =>
CutW σ (fun c =>
oF (vPart true 3 a.2 1) fun d =>
oF (vPart true 3 a.2 4) fun e =>
oF (vPart true 3 a.2 7) fun f =>
oF (vBuildSl 3 (List.replicate 3 (.agg [(nI 0),(nI 0),(nI 0)])) [(0,d),(1,e),(2,f)]) fun d =>
oF (vLen .sl (.list .full d) b) fun e =>
packW [(0,a0),(16,(.list .full d)),(17,e),(18,nI 0),(3,a.2)] fun a =>
Lfp σ (fun d e f =>
bF .lss (e 18) (e 17) fun g =>
condW g (
oF (vIndex 3 (e 16) (e 18)) fun g =>
oF (vLoad true 3 g f) fun g =>
oF (vPut 3 (.agg [(nI 0),(nI 0),(nI 0)]) 0 g) fun g =>
pF g 0 fun h =>
callB W 150 [(e 0),h] f (fun h h =>
pF g 1 fun i =>
callB W 150 [(e 0),i] h (fun h h =>
pF g 2 fun g =>
callB W 150 [(e 0),g] h (fun g g =>
bF .add (e 18) (nI 1) fun h =>
kF [(0,e 0),(16,e 16),(17,e 17),(18,h),(3,e 3)] d g) (pNR R)) (pNR R)) (pNR R)) (
kF [(0,e 0),(3,e 3)] c f)) a b) (fun a b =>
pF (a 3) 10 fun c =>
callB W 247 [(a 0),c] b (fun b b =>
pF (a 3) 11 fun c =>
callB W 150 [(a 0),c] b (fun a a =>
wkR σ (.tuple []) a R) (pNR R)) (pNR R))) (pNR R)
theorem fn154_eq (W : CallP) (a0 a1 : PV) (σ : St) (R : Res → St → Prop) : bodyC (algP W) Tryz.prog annF 154 [a0,a1] σ R = fn154 Tryz.prog W a0 a1 σ R := by kernel_rfl
def fn155 (Pr : Program) (W : CallP) (a0 a1 a2 : PV) (σ : St) (R : Res → St → Prop) : Prop :=
oF (vLen .sl a1 σ) fun a =>
callB W 150 [a0,a] σ (fun a a =>
oF (vLen .sl a1 a) fun b =>
packW [(2,a2),(12,a1),(13,b),(14,nI 0)] fun b =>
Lfp σ (fun c d e =>
bF .lss (d 14) (d 13) fun f =>
condW f (
oF (vIndex 1 (d 12) (d 14)) fun f =>
oF (vLoad false 1 f e) fun f =>
callG (algP W) Pr false (d 2) [f] e (fun f f =>
bF .add (d 14) (nI 1) fun g =>
kF [(2,d 2),(12,d 12),(13,d 13),(14,g)] c f) (pNR R)) (
wkR σ (.tuple []) e R)) b a) (pNR R)
theorem fn155_eq (W : CallP) (a0 a1 a2 : PV) (σ : St) (R : Res → St → Prop) : bodyC (algP W) Tryz.prog annF 155 [a0,a1,a2] σ R = fn155 Tryz.prog W a0 a1 a2 σ R := by kernel_rfl
def fn156 (Pr : Program) (W : CallP) (a0 a1 : PV) (σ : St) (R : Res → St → Prop) : Prop :=
oF (vLen .str a1 σ) fun a =>
callB W 150 [a0,a] σ (fun a a =>
lF a0 0 a fun b =>
bindS (vAppendT 23 1 1 b a1 a) fun a b =>
sF a0 0 a b fun a =>
wkR σ (.tuple []) a R) (pNR R)
theorem fn156_eq (W : CallP) (a0 a1 : PV) (σ : St) (R : Res → St → Prop) : bodyC (algP W) Tryz.prog annF 156 [a0,a1] σ R = fn156 Tryz.prog W a0 a1 σ R := by kernel_rfl
def fn157 (Pr : Program) (W : CallP) (a0 a1 a2 : PV) (σ : St) (R : Res → St → Prop) : Prop :=
oF (vLen .sl a1 σ) fun a =>
callB W 150 [a0,a] σ (fun a a =>
oF (vLen .sl a1 a) fun b =>
packW [(2,a2),(12,a1),(13,b),(14,nI 0)] fun b =>
Lfp σ (fun c d e =>
bF .lss (d 14) (d 13) fun f =>
condW f (
oF (vIndex 3 (d 12) (d 14)) fun f =>
oF (vLoad true 3 f e) fun f =>
oF (vPut 3 (.agg [(.str []),(.bool false),(nI 0)]) 0 f) fun f =>
oF (vPart true 3 f 0) fun f =>
callG (algP W) Pr false (d 2) [f] e (fun f f =>
bF .add (d 14) (nI 1) fun g =>
kF [(2,d 2),(12,d 12),(13,d 13),(14,g)] c f) (pNR R)) (
wkR σ (.tuple []) e R)) b a) (pNR R)
theorem fn157_eq (W : CallP) (a0 a1 a2 : PV) (σ : St) (R : Res → St → Prop) : bodyC (algP W) Tryz.prog annF 157 [a0,a1,a2] σ R = fn157 Tryz.prog W a0 a1 a2 σ R := by kernel_rfl
def fn158 (Pr : Program) (W : CallP) (a0 a1 : PV) (σ : St) (R : Res → St → Prop) : Prop :=
oF (opC.vBoxAny a0) fun a =>
oF (vLoad false 1 a1 σ) fun b =>
pF a.2 0 fun c =>
callB W 156 [b,c] σ (fun b b =>
oF (vLoad false 1 a1 b) fun c =>
pF a.2 1 fun d =>
callB W 159 [c,d] b (fun b b =>
oF (vLoad false 1 a1 b) fun c =>
pF a.2 2 fun a =>
callB W 150 [c,a] b (fun a a =>
wkR σ (.tuple []) a R) (pNR R)) (pNR R)) (pNR R)
theorem fn158_eq (W : CallP) (a0 a1 : PV) (σ : St) (R : Res → St → Prop) : bodyC (algP W) Tryz.prog annF 158 [a0,a1] σ R = fn158 Tryz.prog W a0 a1 σ R := by kernel_rfl
def fn159 (Pr : Program) (W : CallP) (a0 a1 : PV) (σ : St) (R : Res → St → Prop) : Prop :=
condW a1 (
callB W 150 [a0,(nI 1)] σ (fun a a =>
wkR σ (.tuple []) a R) (pNR R)) (
callB W 150 [a0,(nI 0)] σ (fun a a =>
wkR σ (.tuple []) a R) (pNR R))
theorem fn159_eq (W : CallP) (a0 a1 : PV) (σ : St) (R : Res → St → Prop) : bodyC (algP W) Tryz.prog annF 159 [a0,a1] σ R = fn159 Tryz.prog W a0 a1 σ R := by kernel_rfl
def fn160 (Pr : Program) (W : CallP) (a0 a1 a2 : PV) (σ : St) (R : Res → St → Prop) : Prop :=
oF (vLen .sl a1 σ) fun a =>
callB W 150 [a0,a] σ (fun a a =>
oF (vLen .sl a1 a) fun b =>
packW [(2,a2),(12,a1),(13,b),(14,nI 0)] fun b =>
Lfp σ (fun c d e =>
bF .lss (d 14) (d 13) fun f =>
condW f (
oF (vIndex 2 (d 12) (d 14)) fun f =>
oF (vLoad true 2 f e) fun f =>
oF (vPut 2 (.agg [(nI 0),(nI 0)]) 0 f) fun f =>
oF (vPart true 2 f 0) fun f =>
callG (algP W) Pr false (d 2) [f] e (fun f f =>
bF .add (d 14) (nI 1) fun g =>
kF [(2,d 2),(12,d 12),(13,d 13),(14,g)] c f) (pNR R)) (
wkR σ (.tuple []) e R)) b a) (pNR R)
theorem fn160_eq (W : CallP) (a0 a1 a2 : PV) (σ : St) (R : Res → St → Prop) : bodyC (algP W) Tryz.prog annF 160 [a0,a1,a2] σ R = fn160 Tryz.prog W a0 a1 a2 σ R := by kernel_rfl
def fn161 (Pr : Program) (W : CallP) (a0 a1 : PV) (σ : St) (R : Res → St → Prop) : Prop :=
oF (opC.vBoxAny a0) fun a =>
oF (vLoad false 1 a1 σ) fun b =>
pF a.2 0 fun c =>
callB W 150 [b,c] σ (fun b b =>
oF (vLoad false 1 a1 b) fun c =>
pF a.2 1 fun a =>
callB W 150 [c,a] b (fun a a =>
wkR σ (.tuple []) a R) (pNR R)) (pNR R)
theorem fn161_eq (W : CallP) (a0 a1 : PV) (σ : St) (R : Res → St → Prop) : bodyC (algP W) Tryz.prog annF 161 [a0,a1] σ R = fn161 Tryz.prog W a0 a1 σ R := by kernel_rfl
def fn246 (Pr : Program) (W : CallP) (a0 a1 a2 : PV) (σ : St) (R : Res → St → Prop) : Prop :=
oF (vLen .sl a1 σ) fun a =>
callB W 150 [a0,a] σ (fun a a =>
oF (vLen .sl a1 a) fun b =>
packW [(2,a2),(12,a1),(13,b),(14,nI 0)] fun b =>
Lfp σ (fun c d e =>
bF .lss (d 14) (d 13) fun f =>
condW f (
oF (vIndex 1 (d 12) (d 14)) fun f =>
oF (vLoad false 1 f e) fun f =>
callG (algP W) Pr false (d 2) [f] e (fun f f =>
bF .add (d 14) (nI 1) fun g =>
kF [(2,d 2),(12,d 12),(13,d 13),(14,g)] c f) (pNR R)) (
wkR σ (.tuple []) e R)) b a) (pNR R)
theorem fn246_eq (W : CallP) (a0 a1 a2 : PV) (σ : St) (R : Res → St → Prop) : bodyC (algP W) Tryz.prog annF 246 [a0,a1,a2] σ R = fn246 Tryz.prog W a0 a1 a2 σ R := by kernel_rfl
def fn247 (Pr : Program) (W : CallP) (a0 a1 : PV) (σ : St) (R : Res → St → Prop) : Prop :=
oF (vConv .u64 a1) fun a =>
bF .shl a (.int .u64 1) fun a =>
CutW σ (fun b =>
bF .lss a1 (nI 0) fun c =>
condW c (
oF (vUn .xor a) fun c =>
kF [(0,a0),(4,c)] b σ) (
kF [(0,a0),(4,a)] b σ)) (fun a b =>
CutW σ (fun c =>
packW [(0,a 0),(4,a 4)] fun a =>
Lfp σ (fun d e f =>
bF .geq (e 4) (.int .u64 128) fun g =>
condW g (
lF (e 0) 0 f fun g =>
oF (vConv .u8 (e 4)) fun h =>
bF .or h (.int .u8 128) fun h =>
mF 1 (.int .u8 0) h fun h =>
bindS (vAppendT 23 1 1 g (.list .full h) f) fun g h =>
sF (e 0) 0 g h fun g =>
bF .shr (e 4) (.int .u64 7) fun h =>
kF [(0,e 0),(4,h)] d g) (
kF [(0,e 0),(4,e 4)] c f)) a b) (fun a b =>
lF (a 0) 0 b fun c =>
oF (vConv .u8 (a 4)) fun d =>
mF 1 (.int .u8 0) d fun d =>
bindS (vAppendT 23 1 1 c (.list .full d) b) fun b c =>
sF (a 0) 0 b c fun a =>
wkR σ (.tuple []) a R))
theorem fn247_eq (W : CallP) (a0 a1 : PV) (σ : St) (R : Res → St → Prop) : bodyC (algP W) Tryz.prog annF 247 [a0,a1] σ R = fn247 Tryz.prog W a0 a1 σ R := by kernel_rfl
def fn248 (Pr : Program) (W : CallP) (a0 a1 a2 : PV) (σ : St) (R : Res → St → Prop) : Prop :=
oF (vLen .sl a1 σ) fun a =>
callB W 150 [a0,a] σ (fun a a =>
oF (vLen .sl a1 a) fun b =>
packW [(2,a2),(12,a1),(13,b),(14,nI 0)] fun b =>
Lfp σ (fun c d e =>
bF .lss (d 14) (d 13) fun f =>
condW f (
oF (vIndex 3 (d 12) (d 14)) fun f =>
oF (vLoad true 3 f e) fun f =>
oF (vPut 3 (.agg [(nI 0),(nI 0),(nI 0)]) 0 f) fun f =>
oF (vPart true 3 f 0) fun f =>
callG (algP W) Pr false (d 2) [f] e (fun f f =>
bF .add (d 14) (nI 1) fun g =>
kF [(2,d 2),(12,d 12),(13,d 13),(14,g)] c f) (pNR R)) (
wkR σ (.tuple []) e R)) b a) (pNR R)
theorem fn248_eq (W : CallP) (a0 a1 a2 : PV) (σ : St) (R : Res → St → Prop) : bodyC (algP W) Tryz.prog annF 248 [a0,a1,a2] σ R = fn248 Tryz.prog W a0 a1 a2 σ R := by kernel_rfl
def fn249 (Pr : Program) (W : CallP) (a0 a1 : PV) (σ : St) (R : Res → St → Prop) : Prop :=
oF (opC.vBoxAny a0) fun a =>
oF (vLoad false 1 a1 σ) fun b =>
pF a.2 0 fun c =>
callB W 150 [b,c] σ (fun b b =>
oF (vLoad false 1 a1 b) fun c =>
pF a.2 1 fun d =>
callB W 150 [c,d] b (fun b b =>
oF (vLoad false 1 a1 b) fun c =>
pF a.2 2 fun a =>
callB W 150 [c,a] b (fun a a =>
wkR σ (.tuple []) a R) (pNR R)) (pNR R)) (pNR R)
theorem fn249_eq (W : CallP) (a0 a1 : PV) (σ : St) (R : Res → St → Prop) : bodyC (algP W) Tryz.prog annF 249 [a0,a1] σ R = fn249 Tryz.prog W a0 a1 σ R := by kernel_rfl
end Go.Proofs.YtgghfcchanilpaaGreatDoor
