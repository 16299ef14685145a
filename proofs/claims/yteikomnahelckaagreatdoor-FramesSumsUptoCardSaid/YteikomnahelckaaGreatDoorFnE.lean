import Derived.KernelRfl
import Derived.Test.YteikomnahelckaaGreatDoorAnn
import Derived.Test.YteikomnahelckaaGreatDoorProg
set_option linter.unusedVariables false
set_option linter.unusedSimpArgs false
namespace Go.Proofs.YteikomnahelckaaGreatDoor
open Go Go.Abs
def fn28 (Pr : Program) (W : CallP) (a0 : PV) (σ : St) (R : Res → St → Prop) : Prop :=
callB W 75 [a0] σ (fun a b =>
oF (vLen .sl a b) fun c =>
packW [(3,a),(8,c),(9,nI 0)] fun a =>
Lfp σ (fun c d e =>
bF .lss (d 9) (d 8) fun f =>
condW f (
oF (vIndex 6 (d 3) (d 9)) fun f =>
oF (vField 2 f) fun f =>
oF (vLoad false 1 f e) fun f =>
oF (vIndex 6 (d 3) (d 9)) fun g =>
oF (vField 3 g) fun g =>
oF (vLoad false 1 g e) fun g =>
callC W 66 [f] e fun f h =>
callB W 76 [g] h (fun g h =>
oF (vIndex 6 (d 3) (d 9)) fun i =>
oF (vField 2 i) fun i =>
oF (vStore 1 i f h) fun f =>
oF (vIndex 6 (d 3) (d 9)) fun h =>
oF (vField 3 h) fun h =>
oF (vStore 1 h g f) fun f =>
bF .add (d 9) (nI 1) fun g =>
kF [(3,d 3),(8,d 8),(9,g)] c f) (pNR R)) (
wkR σ (d 3) e R)) a b) (pNR R)
theorem fn28_eq (W : CallP) (a0 : PV) (σ : St) (R : Res → St → Prop) : bodyC (algP W) Tryz.prog annF 28 [a0] σ R = fn28 Tryz.prog W a0 σ R := by kernel_rfl
def fn29 (Pr : Program) (W : CallP) (a0 a1 : PV) (σ : St) (R : Res → St → Prop) : Prop :=
oF (opC.vBoxAny a0) fun a =>
if 0 < a.1 then newW a.1 a.2 σ fun a b =>
newMapW b fun b c =>
newW 1 .nilmap c fun c d =>
oF (vStore 1 c b d) fun b =>
newW 1 .nilfunc b fun b d =>
oF (vStore 1 b (.func 77 0 [c,a,b]) d) fun a =>
oF (vLoad false 1 b a) fun b =>
callG (algP W) Pr false b [a1] a (fun a b =>
wkR σ a b R) (pNR R) else False
theorem fn29_eq (W : CallP) (a0 a1 : PV) (σ : St) (R : Res → St → Prop) : bodyC (algP W) Tryz.prog annF 29 [a0,a1] σ R = fn29 Tryz.prog W a0 a1 σ R := by kernel_rfl
def fn30 (Pr : Program) (W : CallP) (a0 a1 a2 : PV) (σ : St) (R : Res → St → Prop) : Prop :=
lF a0 0 σ fun a =>
oF (vIndex 6 a a1) fun a =>
oF (vLoad true 6 a σ) fun a =>
oF (vPut 6 (.agg [(nI 0),(nI 0),nL,nL,(nI 0),(.bool false)]) 0 a) fun a =>
pF a 0 fun b =>
bF .eql b (nI 0) fun c =>
condW c (
wkR σ a2 σ R) (
bF .eql b (nI 11) fun b =>
condW b (
pF a 2 fun b =>
oF (vLen .sl b σ) fun c =>
packW [(0,a0),(2,a2),(25,b),(26,c),(27,nI 0)] fun b =>
Lfp σ (fun c d e =>
bF .lss (d 27) (d 26) fun f =>
condW f (
oF (vIndex 1 (d 25) (d 27)) fun f =>
oF (vLoad false 1 f e) fun f =>
callB W 30 [(d 0),f,(d 2)] e (fun f g =>
bF .add (d 27) (nI 1) fun h =>
kF [(0,d 0),(2,f),(25,d 25),(26,d 26),(27,h)] c g) (pNR R)) (
wkR σ (d 2) e R)) b σ) (
pF a 0 fun b =>
oF (vArrOff 1 14 b) fun k25 =>
oF (vField k25 (globPV 0)) fun b =>
oF (vLoad false 1 b σ) fun b =>
pF a 1 fun c =>
pF a 4 fun d =>
pF a 5 fun a =>
oF (vBuild [(nI 0),(nI 0),(nI 0),(nI 0),(.bool false)] [(0,1,b),(1,1,c),(3,1,d),(4,1,a)]) fun a =>
oF (vBuild [(nI 0),(nI 0),(nI 0),(nI 0),(.bool false),(nI 0)] [(0,5,(.agg a)),(5,1,a1)]) fun a =>
mF 6 (.agg [(nI 0),(nI 0),(nI 0),(nI 0),(.bool false),(nI 0)]) (.agg a) fun a =>
bindS (vAppend 6 48 a2 (.list .full a) σ) fun a b =>
wkR σ a b R))
theorem fn30_eq (W : CallP) (a0 a1 a2 : PV) (σ : St) (R : Res → St → Prop) : bodyC (algP W) Tryz.prog annF 30 [a0,a1,a2] σ R = fn30 Tryz.prog W a0 a1 a2 σ R := by kernel_rfl
def fn31 (Pr : Program) (W : CallP) (a0 : PV) (σ : St) (R : Res → St → Prop) : Prop :=
oF (opC.vBoxAny a0) fun a =>
if 0 < a.1 then newW a.1 a.2 σ fun a b =>
packW [(1,a),(2,nI 0)] fun a =>
Lfp σ (fun c d e =>
newMapW e fun e f =>
oF (vLoad false 1 (d 1) f) fun g =>
lF g 1 f fun g =>
oF (vLen .sl g f) fun g =>
bindS (vMakeSl 1 8 (nI 0) g g f) fun f g =>
oF (vLoad false 1 (d 1) g) fun h =>
lF h 1 g fun h =>
oF (vLen .sl h g) fun i =>
packW [(1,d 1),(2,d 2),(3,e),(4,f),(24,h),(25,i),(26,nI 0)] fun d =>
Lfp σ (fun e f h =>
bF .lss (f 26) (f 25) fun i =>
condW i (
oF (vIndex 2 (f 24) (f 26)) fun i =>
oF (vLoad true 2 i h) fun i =>
oF (vPut 2 (.agg [nL,(nI 0)]) 0 i) fun i =>
newT 533 2 (.agg [.nilptr,nL]) h fun j k =>
pF i 0 fun i =>
oF (vLen .sl i k) fun l =>
packW [(1,f 1),(2,f 2),(3,f 3),(4,f 4),(5,f 26),(7,j),(24,f 24),(25,f 25),(26,f 26),(32,i),(33,l),(34,nI 0)] fun i =>
Lfp σ (fun j l m =>
bF .lss (l 34) (l 33) fun n =>
condW n (
oF (vIndex 6 (l 32) (l 34)) fun n =>
oF (vLoad true 6 n m) fun n =>
oF (vPut 6 (.agg [(nI 0),(nI 0),(nI 0),(nI 0),(.bool false),(nI 0)]) 0 n) fun n =>
pF n 0 fun o =>
pF n 1 fun p =>
pF n 3 fun q =>
pF n 4 fun r =>
callB W 79 [o] m (fun o s =>
bF .add o (.str [44]) fun o =>
callB W 79 [p] s (fun p s =>
bF .add o p fun o =>
bF .add o (.str [44]) fun o =>
callB W 79 [q] s (fun p q =>
bF .add o p fun o =>
bF .add o (.str [44]) fun o =>
callB W 80 [r] q (fun p q =>
bF .add o p fun o =>
callB W 78 [(l 7),o] q (fun o o =>
oF (vLoad false 1 (l 1) o) fun p =>
oF (vPart true 6 n 0) fun n =>
callB W 81 [p,n,(.func 82 0 [(l 7),(l 1)])] o (fun n n =>
callB W 78 [(l 7),(.str [59])] n (fun n n =>
bF .add (l 34) (nI 1) fun o =>
kF [(1,l 1),(2,l 2),(3,l 3),(4,l 4),(5,l 5),(7,l 7),(24,l 24),(25,l 25),(26,l 26),(32,l 32),(33,l 33),(34,o)] j n) (pNR R)) (pNR R)) (pNR R)) (pNR R)) (pNR R)) (pNR R)) (pNR R)) (
callB W 83 [(l 7)] m (fun j m =>
oF (vLookup .str (nI 0) true (l 3) j m) fun n =>
oF (vExtract n 0) fun o =>
oF (vExtract n 1) fun n =>
oF (vUn .not n) fun n =>
condW n (
oF (vLen .map (l 3) m) fun n =>
oF (vMapSet .str (l 3) j n m) fun n =>
oF (vLookup .str (nI 0) false (l 3) j n) fun o =>
oF (vIndex 1 (l 4) (l 5)) fun p =>
oF (vStore 1 p o n) fun n =>
bF .add (l 26) (nI 1) fun o =>
kF [(1,l 1),(2,l 2),(3,l 3),(4,l 4),(24,l 24),(25,l 25),(26,o)] e n) (
oF (vLookup .str (nI 0) false (l 3) j m) fun j =>
oF (vIndex 1 (l 4) (l 5)) fun n =>
oF (vStore 1 n j m) fun j =>
bF .add (l 26) (nI 1) fun m =>
kF [(1,l 1),(2,l 2),(3,l 3),(4,l 4),(24,l 24),(25,l 25),(26,m)] e j)) (pNR R))) i k) (
oF (vLoad false 1 (f 1) h) fun e =>
lF e 1 h fun e =>
oF (vLen .sl e h) fun e =>
packW [(1,f 1),(2,f 2),(3,f 3),(4,f 4),(91,e),(92,nI 0)] fun e =>
Lfp σ (fun f i j =>
bF .lss (i 92) (i 91) fun k =>
condW k (
oF (vLoad false 1 (i 1) j) fun k =>
lF k 1 j fun k =>
oF (vIndex 1 (i 4) (i 92)) fun l =>
oF (vLoad false 1 l j) fun l =>
oF (vIndex 2 k (i 92)) fun k =>
oF (vField 1 k) fun k =>
oF (vStore 1 k l j) fun k =>
bF .add (i 92) (nI 1) fun l =>
kF [(1,i 1),(2,i 2),(3,i 3),(4,i 4),(91,i 91),(92,l)] f k) (
oF (vLen .map (i 3) j) fun f =>
bF .eql f (i 2) fun f =>
condW f (
wkR σ (.tuple []) j R) (
oF (vLen .map (i 3) j) fun f =>
kF [(1,i 1),(2,f)] c j))) e h)) d g) a b else False
theorem fn31_eq (W : CallP) (a0 : PV) (σ : St) (R : Res → St → Prop) : bodyC (algP W) Tryz.prog annF 31 [a0] σ R = fn31 Tryz.prog W a0 σ R := by kernel_rfl
def fn66 (Pr : Program) (W : CallP) (a0 : PV) (σ : St) (R : Res → St → Prop) : Prop :=
oF (vBin (some .sl) .eql a0 nL) fun a =>
condW a (
wkR σ nL σ R) (
oF (vBuildSl 1 (List.replicate 0 (nI 0)) []) fun a =>
bindS (vAppend 1 8 (.list .full a) a0 σ) fun a b =>
wkR σ a b R)
theorem fn66_eq (W : CallP) (a0 : PV) (σ : St) (R : Res → St → Prop) : bodyC (algP W) Tryz.prog annF 66 [a0] σ R = fn66 Tryz.prog W a0 σ R := by kernel_rfl
def fn75 (Pr : Program) (W : CallP) (a0 : PV) (σ : St) (R : Res → St → Prop) : Prop :=
oF (vBin (some .sl) .eql a0 nL) fun a =>
condW a (
wkR σ nL σ R) (
oF (vBuildSl 6 (List.replicate 0 (.agg [(nI 0),(nI 0),nL,nL,(nI 0),(.bool false)])) []) fun a =>
bindS (vAppend 6 80 (.list .full a) a0 σ) fun a b =>
wkR σ a b R)
theorem fn75_eq (W : CallP) (a0 : PV) (σ : St) (R : Res → St → Prop) : bodyC (algP W) Tryz.prog annF 75 [a0] σ R = fn75 Tryz.prog W a0 σ R := by kernel_rfl
def fn76 (Pr : Program) (W : CallP) (a0 : PV) (σ : St) (R : Res → St → Prop) : Prop :=
oF (vBin (some .sl) .eql a0 nL) fun a =>
condW a (
wkR σ nL σ R) (
oF (vBuildSl 1 (List.replicate 0 (.str [])) []) fun a =>
bindS (vAppend 1 16 (.list .full a) a0 σ) fun a b =>
wkR σ a b R)
theorem fn76_eq (W : CallP) (a0 : PV) (σ : St) (R : Res → St → Prop) : bodyC (algP W) Tryz.prog annF 76 [a0] σ R = fn76 Tryz.prog W a0 σ R := by kernel_rfl
def fn77 (Pr : Program) (W : CallP) (a0 a1 a2 a3 : PV) (σ : St) (R : Res → St → Prop) : Prop :=
oF (vLoad false 1 a1 σ) fun a =>
oF (vLookup .int (nI 0) true a a0 σ) fun a =>
oF (vExtract a 0) fun b =>
oF (vExtract a 1) fun a =>
condW a (
wkR σ b σ R) (
oF (vLoad false 1 a2 σ) fun a =>
lF a 0 σ fun a =>
oF (vIndex 6 a a0) fun a =>
oF (vLoad true 6 a σ) fun a =>
oF (vPut 6 (.agg [(nI 0),(nI 0),nL,nL,(nI 0),(.bool false)]) 0 a) fun a =>
pF a 0 fun b =>
bF .eql b (nI 0) fun c =>
condW c (
oF (vLoad false 1 a1 σ) fun c =>
oF (vMapSet .int c a0 (nI 0) σ) fun c =>
wkR σ (nI 0) c R) (
bF .eql b (nI 11) fun b =>
condW b (
pF a 2 fun a =>
oF (vLen .sl a σ) fun b =>
packW [(0,a0),(1,a1),(3,a3),(8,nI 0),(34,a),(35,b),(36,nI 0)] fun a =>
Lfp σ (fun b c d =>
bF .lss (c 36) (c 35) fun e =>
condW e (
oF (vIndex 1 (c 34) (c 36)) fun e =>
oF (vLoad false 1 e d) fun e =>
oF (vLoad false 1 (c 3) d) fun f =>
callG (algP W) Pr false f [e] d (fun e f =>
bF .add (c 8) e fun e =>
oF (vMin e (nI 1001)) fun e =>
bF .add (c 36) (nI 1) fun g =>
kF [(0,c 0),(1,c 1),(3,c 3),(8,e),(34,c 34),(35,c 35),(36,g)] b f) (pNR R)) (
oF (vLoad false 1 (c 1) d) fun b =>
oF (vMapSet .int b (c 0) (c 8) d) fun b =>
wkR σ (c 8) b R)) a σ) (
oF (vLoad false 1 a1 σ) fun a =>
oF (vMapSet .int a a0 (nI 1) σ) fun a =>
wkR σ (nI 1) a R)))
theorem fn77_eq (W : CallP) (a0 a1 a2 a3 : PV) (σ : St) (R : Res → St → Prop) : bodyC (algP W) Tryz.prog annF 77 [a0,a1,a2,a3] σ R = fn77 Tryz.prog W a0 a1 a2 a3 σ R := by kernel_rfl
def fn78 (Pr : Program) (W : CallP) (a0 a1 : PV) (σ : St) (R : Res → St → Prop) : Prop :=
callB W 125 [a0] σ (fun a a =>
lF a0 1 a fun b =>
bindS (vAppendT 23 1 1 b a1 a) fun a b =>
sF a0 1 a b fun a =>
oF (vLen .str a1 a) fun b =>
wkR σ (.tuple [b,.nilIface]) a R) (pNR R)
theorem fn78_eq (W : CallP) (a0 a1 : PV) (σ : St) (R : Res → St → Prop) : bodyC (algP W) Tryz.prog annF 78 [a0,a1] σ R = fn78 Tryz.prog W a0 a1 σ R := by kernel_rfl
def fn81 (Pr : Program) (W : CallP) (a0 a1 a2 : PV) (σ : St) (R : Res → St → Prop) : Prop :=
oF (opC.vBoxAny a1) fun a =>
lF a0 0 σ fun b =>
pF a.2 5 fun c =>
oF (vIndex 6 b c) fun b =>
oF (vLoad true 6 b σ) fun b =>
oF (vPut 6 (.agg [(nI 0),(nI 0),nL,nL,(nI 0),(.bool false)]) 0 b) fun b =>
pF a.2 0 fun c =>
bF .eql c (nI 8) fun d =>
condW d (
condW d (
pF b 2 fun d =>
oF (vIndex 1 d (nI 0)) fun d =>
oF (vLoad false 1 d σ) fun d =>
callG (algP W) Pr false a2 [d] σ (fun d d =>
wkR σ (.tuple []) d R) (pNR R)) (
bF .eql c (nI 10) fun d =>
condW d (
lF a0 3 σ fun d =>
pF a.2 5 fun e =>
oF (vLookup .int nL false d e σ) fun d =>
oF (vLen .sl d σ) fun e =>
packW [(2,a2),(37,d),(38,e),(39,nI 0)] fun d =>
Lfp σ (fun e f g =>
bF .lss (f 39) (f 38) fun h =>
condW h (
oF (vIndex 1 (f 37) (f 39)) fun h =>
oF (vLoad false 1 h g) fun h =>
callG (algP W) Pr false (f 2) [h] g (fun h h =>
bF .add (f 39) (nI 1) fun i =>
kF [(2,f 2),(37,f 37),(38,f 38),(39,i)] e h) (pNR R)) (
wkR σ (.tuple []) g R)) d σ) (
bF .eql c (nI 11) fun d =>
condW d (
lF a0 2 σ fun d =>
pF a.2 5 fun e =>
oF (vLookup .int (nI 0) false d e σ) fun d =>
callG (algP W) Pr false a2 [d] σ (fun d d =>
pF b 2 fun e =>
pF b 2 fun f =>
oF (vLen .sl f d) fun f =>
bF .sub f (nI 1) fun f =>
oF (vIndex 1 e f) fun e =>
oF (vLoad false 1 e d) fun e =>
callG (algP W) Pr false a2 [e] d (fun d d =>
wkR σ (.tuple []) d R) (pNR R)) (pNR R)) (
wkR σ (.tuple []) σ R)))) (
bF .eql c (nI 9) fun d =>
condW d (
pF b 2 fun d =>
oF (vIndex 1 d (nI 0)) fun d =>
oF (vLoad false 1 d σ) fun d =>
callG (algP W) Pr false a2 [d] σ (fun d d =>
wkR σ (.tuple []) d R) (pNR R)) (
bF .eql c (nI 10) fun d =>
condW d (
lF a0 3 σ fun d =>
pF a.2 5 fun e =>
oF (vLookup .int nL false d e σ) fun d =>
oF (vLen .sl d σ) fun e =>
packW [(2,a2),(37,d),(38,e),(39,nI 0)] fun d =>
Lfp σ (fun e f g =>
bF .lss (f 39) (f 38) fun h =>
condW h (
oF (vIndex 1 (f 37) (f 39)) fun h =>
oF (vLoad false 1 h g) fun h =>
callG (algP W) Pr false (f 2) [h] g (fun h h =>
bF .add (f 39) (nI 1) fun i =>
kF [(2,f 2),(37,f 37),(38,f 38),(39,i)] e h) (pNR R)) (
wkR σ (.tuple []) g R)) d σ) (
bF .eql c (nI 11) fun c =>
condW c (
lF a0 2 σ fun c =>
pF a.2 5 fun a =>
oF (vLookup .int (nI 0) false c a σ) fun a =>
callG (algP W) Pr false a2 [a] σ (fun a a =>
pF b 2 fun c =>
pF b 2 fun b =>
oF (vLen .sl b a) fun b =>
bF .sub b (nI 1) fun b =>
oF (vIndex 1 c b) fun b =>
oF (vLoad false 1 b a) fun b =>
callG (algP W) Pr false a2 [b] a (fun a a =>
wkR σ (.tuple []) a R) (pNR R)) (pNR R)) (
wkR σ (.tuple []) σ R))))
theorem fn81_eq (W : CallP) (a0 a1 a2 : PV) (σ : St) (R : Res → St → Prop) : bodyC (algP W) Tryz.prog annF 81 [a0,a1,a2] σ R = fn81 Tryz.prog W a0 a1 a2 σ R := by kernel_rfl
def fn82 (Pr : Program) (W : CallP) (a0 a1 a2 : PV) (σ : St) (R : Res → St → Prop) : Prop :=
oF (vLoad false 1 a2 σ) fun a =>
lF a 1 σ fun a =>
oF (vIndex 2 a a0) fun a =>
oF (vField 1 a) fun a =>
oF (vLoad false 1 a σ) fun a =>
callB W 79 [a] σ (fun a b =>
bF .add (.str [58]) a fun a =>
callB W 78 [a1,a] b (fun a a =>
wkR σ (.tuple []) a R) (pNR R)) (pNR R)
theorem fn82_eq (W : CallP) (a0 a1 a2 : PV) (σ : St) (R : Res → St → Prop) : bodyC (algP W) Tryz.prog annF 82 [a0,a1,a2] σ R = fn82 Tryz.prog W a0 a1 a2 σ R := by kernel_rfl
end Go.Proofs.YteikomnahelckaaGreatDoor
