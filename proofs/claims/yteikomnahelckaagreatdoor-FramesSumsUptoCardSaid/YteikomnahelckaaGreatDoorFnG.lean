import Derived.KernelRfl
import Derived.Test.YteikomnahelckaaGreatDoorAnn
import Derived.Test.YteikomnahelckaaGreatDoorProg
set_option linter.unusedVariables false
set_option linter.unusedSimpArgs false
namespace Go.Proofs.YteikomnahelckaaGreatDoor
open Go Go.Abs
def fn3 (Pr : Program) (W : CallP) (a0 : PV) (σ : St) (R : Res → St → Prop) : Prop :=
callB W 8 [] σ (fun a b =>
oF (vUn .not a) fun a =>
gF a false (fun c =>
callB W 9 [a0] b (fun d e =>
oF (vUn .not d) fun f =>
c (lookE [(21,(.v a0)),(22,(.v d)),(23,(.v f))]) e) (pNR R)) b (fun b c =>
oF (vPick a (.bool true) (b 23).pv) fun a =>
condW a (
callB W 8 [] c (fun a b =>
wkR σ a b R) (pNR R)) (
callB W 10 [a0] c (fun a b =>
oF (vExtract a 0) fun c =>
oF (vExtract a 1) fun a =>
bF .neq a (nI 0) fun a =>
condW a (
oF (vBin (some .ptr) .eql c .nilptr) fun a =>
wkR σ a b R) (
CutW σ (fun a =>
packW [(0,a0),(3,c),(5,nI 0)] fun c =>
Lfp σ (fun d e f =>
oF (vLen .sl (e 0) f) fun g =>
bF .lss (e 5) g fun g =>
condW g (
CutW σ (fun g =>
callB W 11 [(e 3),(e 5)] f (fun h i =>
oF (vExtract h 0) fun j =>
oF (vExtract h 1) fun h =>
callB W 13 [(e 3)] i (fun h i =>
callB W 14 [(e 3),(e 5)] i (fun i k =>
oF (vIndex 1 h i) fun h =>
oF (vField 0 h) fun h =>
oF (vLoad false 1 h k) fun h =>
callB W 12 [j,h] k (fun h i =>
oF (vUn .not h) fun h =>
gF h false (fun k =>
oF (vLen .sl j i) fun l =>
callB W 15 [(e 3),(e 5)] i (fun m n =>
bF .neq l m fun o =>
k (lookE [(59,(.v j)),(60,(.v l)),(61,(.v (e 3))),(62,(.v (e 5))),(63,(.v m)),(64,(.v o))]) n) (pNR R)) i (fun i k =>
oF (vPick h (.bool true) (i 64).pv) fun h =>
condW h (
wkR σ (.bool false) k R) (
CutW σ (fun h =>
packW [(0,e 0),(3,e 3),(5,e 5),(6,j),(8,nI 0),(9,nI 0)] fun e =>
Lfp σ (fun i j l =>
oF (vIndex 6 (j 0) (j 5)) fun m =>
oF (vField 0 m) fun m =>
oF (vLoad false 1 m l) fun m =>
bF .eql m (nI 11) fun m =>
gF m true (fun n =>
oF (vIndex 6 (j 0) (j 5)) fun o =>
oF (vField 2 o) fun p =>
oF (vLoad false 1 p l) fun q =>
oF (vLen .sl q l) fun r =>
bF .lss (j 9) r fun s =>
n (lookE [(73,(.v (j 9))),(74,(.v (j 0))),(75,(.v (j 5))),(76,(.v o)),(77,(.v p)),(78,(.v q)),(79,(.v r)),(80,(.v s))]) l) l (fun l n =>
oF (vPick m (l 80).pv (.bool false)) fun l =>
condW l (
callB W 16 [(j 3),(j 5),(j 9)] n (fun l m =>
oF (vExtract l 0) fun o =>
oF (vExtract l 1) fun p =>
oF (vExtract l 2) fun l =>
callB W 11 [(j 3),p] m (fun m q =>
oF (vExtract m 0) fun r =>
oF (vExtract m 1) fun m =>
bF .neq l (nI 0) fun l =>
gF l false (fun m =>
bF .neq o (j 8) fun s =>
m (lookE [(101,(.v o)),(102,(.v (j 8))),(103,(.v s))]) q) q (fun m o =>
oF (vPick l (.bool true) (m 103).pv) fun l =>
gF l false (fun m =>
oF (vIndex 6 (j 0) (j 5)) fun q =>
oF (vField 2 q) fun s =>
oF (vLoad false 1 s o) fun t =>
oF (vIndex 1 t (j 9)) fun u =>
oF (vLoad false 1 u o) fun v =>
bF .neq p v fun w =>
m (lookE [(106,(.v p)),(107,(.v (j 0))),(108,(.v (j 5))),(109,(.v q)),(110,(.v s)),(111,(.v t)),(112,(.v (j 9))),(113,(.v u)),(114,(.v v)),(115,(.v w))]) o) o (fun m o =>
oF (vPick l (.bool true) (m 115).pv) fun l =>
gF l false (fun m =>
oF (vLen .sl r o) fun p =>
bF .add (j 8) p fun q =>
oF (vLen .sl (j 6) o) fun s =>
bF .gtr q s fun t =>
m (lookE [(118,(.v (j 8))),(119,(.v r)),(120,(.v p)),(121,(.v q)),(122,(.v (j 6))),(123,(.v s)),(124,(.v t))]) o) o (fun m o =>
oF (vPick l (.bool true) (m 124).pv) fun l =>
gF l false (fun m =>
oF (vLen .sl r o) fun p =>
bF .add (j 8) p fun q =>
oF (vSubSl 5 (j 6) (some (j 8)) (some q)) fun s =>
callB W 12 [s,r] o (fun t u =>
oF (vUn .not t) fun v =>
m (lookE [(127,(.v (j 6))),(128,(.v (j 8))),(129,(.v (j 8))),(130,(.v r)),(131,(.v p)),(132,(.v q)),(133,(.v s)),(134,(.v r)),(135,(.v t)),(136,(.v v))]) u) (pNR R)) o (fun m o =>
oF (vPick l (.bool true) (m 136).pv) fun l =>
condW l (
wkR σ (.bool false) o R) (
oF (vLen .sl r o) fun l =>
bF .add (j 8) l fun l =>
bF .add (j 9) (nI 1) fun m =>
kF [(0,j 0),(3,j 3),(5,j 5),(6,j 6),(8,l),(9,m)] i o)))))) (pNR R)) (pNR R)) (
kF [(0,j 0),(3,j 3),(5,j 5),(6,j 6)] h n))) e k) (fun e h =>
packW [(0,e 0),(3,e 3),(5,e 5),(6,e 6),(15,nI 0)] fun e =>
Lfp σ (fun i j k =>
bF .lss (j 15) (j 5) fun l =>
condW l (
callB W 11 [(j 3),(j 15)] k (fun l m =>
oF (vExtract l 0) fun n =>
oF (vExtract l 1) fun l =>
callB W 12 [(j 6),n] m (fun l m =>
callB W 14 [(j 3),(j 5)] m (fun m n =>
callB W 14 [(j 3),(j 15)] n (fun n o =>
bF .eql m n fun m =>
oF (vBin (some .bool) .neq l m) fun l =>
condW l (
wkR σ (.bool false) o R) (
bF .add (j 15) (nI 1) fun l =>
kF [(0,j 0),(3,j 3),(5,j 5),(6,j 6),(15,l)] i o)) (pNR R)) (pNR R)) (pNR R)) (pNR R)) (
kF [(0,j 0),(3,j 3),(5,j 5)] g k)) e h)))) (pNR R)) (pNR R)) (pNR R)) (pNR R)) (fun e g =>
bF .add (e 5) (nI 1) fun h =>
kF [(0,e 0),(3,e 3),(5,h)] d g)) (
kF [] a f)) c b) (fun a a =>
wkR σ (.bool true) a R))) (pNR R)))) (pNR R)
theorem fn3_eq (W : CallP) (a0 : PV) (σ : St) (R : Res → St → Prop) : bodyC (algP W) Tryz.prog annF 3 [a0] σ R = fn3 Tryz.prog W a0 σ R := by kernel_rfl
def fn9 (Pr : Program) (W : CallP) (a0 : PV) (σ : St) (R : Res → St → Prop) : Prop :=
oF (vLen .sl a0 σ) fun a =>
bF .gtr a (nI 14) fun a =>
condW a (
wkR σ (.bool false) σ R) (
CutW σ (fun a =>
packW [(0,a0),(3,nI 0)] fun b =>
Lfp σ (fun c d e =>
oF (vLen .sl (d 0) e) fun f =>
bF .lss (d 3) f fun f =>
condW f (
CutW σ (fun f =>
oF (vIndex 6 (d 0) (d 3)) fun g =>
oF (vField 2 g) fun g =>
oF (vLoad false 1 g e) fun g =>
oF (vLen .sl g e) fun g =>
bF .gtr g (nI 6) fun g =>
gF g false (fun h =>
oF (vIndex 6 (d 0) (d 3)) fun i =>
oF (vField 3 i) fun j =>
oF (vLoad false 1 j e) fun k =>
oF (vLen .sl k e) fun l =>
bF .gtr l (nI 6) fun m =>
h (lookE [(22,(.v (d 0))),(23,(.v (d 3))),(24,(.v i)),(25,(.v j)),(26,(.v k)),(27,(.v l)),(28,(.v m))]) e) e (fun h i =>
oF (vPick g (.bool true) (h 28).pv) fun g =>
condW g (
wkR σ (.bool false) i R) (
packW [(0,d 0),(3,d 3),(4,nI 0)] fun d =>
Lfp σ (fun g h j =>
oF (vIndex 6 (h 0) (h 3)) fun k =>
oF (vField 3 k) fun k =>
oF (vLoad false 1 k j) fun k =>
oF (vLen .sl k j) fun k =>
bF .lss (h 4) k fun k =>
condW k (
oF (vIndex 6 (h 0) (h 3)) fun k =>
oF (vField 3 k) fun k =>
oF (vLoad false 1 k j) fun k =>
oF (vIndex 1 k (h 4)) fun k =>
oF (vLoad false 1 k j) fun k =>
oF (vLen .str k j) fun k =>
bF .gtr k (nI 50) fun k =>
condW k (
wkR σ (.bool false) j R) (
bF .add (h 4) (nI 1) fun k =>
kF [(0,h 0),(3,h 3),(4,k)] g j)) (
kF [(0,h 0),(3,h 3)] f j)) d i))) (fun d f =>
bF .add (d 3) (nI 1) fun g =>
kF [(0,d 0),(3,g)] c f)) (
kF [] a e)) b σ) (fun a a =>
wkR σ (.bool true) a R))
theorem fn9_eq (W : CallP) (a0 : PV) (σ : St) (R : Res → St → Prop) : bodyC (algP W) Tryz.prog annF 9 [a0] σ R = fn9 Tryz.prog W a0 σ R := by kernel_rfl
def fn10 (Pr : Program) (W : CallP) (a0 : PV) (σ : St) (R : Res → St → Prop) : Prop :=
callB W 27 [a0] σ (fun a b =>
bF .neq a (nI 0) fun a =>
condW a (
wkR σ (.tuple [.nilptr,(nI 2)]) b R) (
callB W 28 [a0] b (fun a b =>
newMapW b fun b c =>
newMapW c fun c d =>
newMapW d fun d e =>
oF (vBuild [nL,nL,.nilmap,.nilmap,.nilmap,nL,nL,nL,nL,nL] [(0,1,a),(2,1,b),(3,1,c),(4,1,d)]) fun a =>
oF (opC.vBoxAny (.agg a)) fun a =>
if 0 < a.1 then newW a.1 a.2 e fun a b =>
oF (vLen .sl a0 b) fun c =>
packW [(0,a0),(4,a),(24,c),(25,nI 0)] fun a =>
Lfp σ (fun c d e =>
bF .lss (d 25) (d 24) fun f =>
condW f (
callB W 29 [(d 4),(d 25)] e (fun f g =>
bF .gtr f (nI 1000) fun f =>
condW f (
wkR σ (.tuple [.nilptr,(nI 3)]) g R) (
bF .add (d 25) (nI 1) fun f =>
kF [(0,d 0),(4,d 4),(24,d 24),(25,f)] c g)) (pNR R)) (
oF (vLen .sl (d 0) e) fun c =>
packW [(0,d 0),(4,d 4),(34,c),(35,nI 0)] fun c =>
Lfp σ (fun d f g =>
bF .lss (f 35) (f 34) fun h =>
condW h (
lF (f 4) 1 g fun h =>
callC W 30 [(f 4),(f 35),nL] g fun i j =>
oF (vBuild [nL,(nI 0)] [(0,1,i)]) fun i =>
mF 2 (.agg [nL,(nI 0)]) (.agg i) fun i =>
bindS (vAppend 2 32 h (.list .full i) j) fun h i =>
sF (f 4) 1 h i fun h =>
bF .add (f 35) (nI 1) fun i =>
kF [(0,f 0),(4,f 4),(34,f 34),(35,i)] d h) (
oF (vLen .sl (f 0) g) fun d =>
packW [(0,f 0),(4,f 4),(52,f 0),(53,d),(54,nI 0)] fun d =>
Lfp σ (fun f h i =>
bF .lss (h 54) (h 53) fun j =>
condW j (
oF (vIndex 6 (h 52) (h 54)) fun j =>
oF (vLoad true 6 j i) fun j =>
oF (vPut 6 (.agg [(nI 0),(nI 0),nL,nL,(nI 0),(.bool false)]) 0 j) fun j =>
pF j 0 fun k =>
bF .eql k (nI 13) fun l =>
condW l (
pF j 2 fun l =>
pF j 2 fun m =>
oF (vLen .sl m i) fun m =>
bF .sub m (nI 1) fun m =>
oF (vSubSl 1 l none (some m)) fun l =>
oF (vLen .sl l i) fun m =>
packW [(0,h 0),(4,h 4),(7,h 54),(9,nL),(52,h 52),(53,h 53),(54,h 54),(69,l),(70,m),(71,nI 0)] fun l =>
Lfp σ (fun m n o =>
bF .lss (n 71) (n 70) fun p =>
condW p (
oF (vIndex 1 (n 69) (n 71)) fun p =>
oF (vLoad false 1 p o) fun p =>
callB W 30 [(n 4),p,(n 9)] o (fun p q =>
oF (vLen .sl p q) fun r =>
bF .gtr r (nI 1000) fun r =>
condW r (
wkR σ (.tuple [.nilptr,(nI 3)]) q R) (
bF .add (n 71) (nI 1) fun r =>
kF [(0,n 0),(4,n 4),(7,n 7),(9,p),(52,n 52),(53,n 53),(54,n 54),(69,n 69),(70,n 70),(71,r)] m q)) (pNR R)) (
lF (n 4) 2 o fun m =>
lF (n 4) 1 o fun p =>
oF (vLen .sl p o) fun p =>
oF (vMapSet .int m (n 7) p o) fun m =>
lF (n 4) 1 m fun o =>
oF (vBuild [nL,(nI 0)] [(0,1,(n 9))]) fun p =>
mF 2 (.agg [nL,(nI 0)]) (.agg p) fun p =>
bindS (vAppend 2 32 o (.list .full p) m) fun m o =>
sF (n 4) 1 m o fun m =>
bF .add (n 54) (nI 1) fun o =>
kF [(0,n 0),(4,n 4),(52,n 52),(53,n 53),(54,o)] f m)) l i) (
bF .eql k (nI 12) fun k =>
condW k (
lF (h 4) 3 i fun k =>
pF j 2 fun j =>
oF (vMapSet .int k (h 54) j i) fun j =>
bF .add (h 54) (nI 1) fun k =>
kF [(0,h 0),(4,h 4),(52,h 52),(53,h 53),(54,k)] f j) (
bF .add (h 54) (nI 1) fun j =>
kF [(0,h 0),(4,h 4),(52,h 52),(53,h 53),(54,j)] f i))) (
callB W 31 [(h 4)] i (fun f f =>
oF (vLen .sl (h 0) f) fun i =>
packW [(4,h 4),(117,i),(118,nI 0)] fun h =>
Lfp σ (fun i j k =>
bF .lss (j 118) (j 117) fun l =>
condW l (
callB W 32 [(j 4),(j 118)] k (fun l l =>
bF .add (j 118) (nI 1) fun m =>
kF [(4,j 4),(117,j 117),(118,m)] i l) (pNR R)) (
wkR σ (.tuple [(j 4),(nI 0)]) k R)) h f) (pNR R))) d g)) c e)) a b else False) (pNR R))) (pNR R)
theorem fn10_eq (W : CallP) (a0 : PV) (σ : St) (R : Res → St → Prop) : bodyC (algP W) Tryz.prog annF 10 [a0] σ R = fn10 Tryz.prog W a0 σ R := by kernel_rfl
def fn11 (Pr : Program) (W : CallP) (a0 a1 : PV) (σ : St) (R : Res → St → Prop) : Prop :=
callB W 33 [a0,a1] σ (fun a b =>
bF .neq a (nI 0) fun c =>
condW c (
wkR σ (.tuple [nL,a]) b R) (
lF a0 5 b fun a =>
callC W 14 [a0,a1] b fun b c =>
oF (vIndex 1 a b) fun a =>
oF (vField 0 a) fun a =>
oF (vLoad false 1 a c) fun a =>
callB W 34 [a] c (fun a b =>
wkR σ (.tuple [a,(nI 0)]) b R) (pNR R))) (pNR R)
theorem fn11_eq (W : CallP) (a0 a1 : PV) (σ : St) (R : Res → St → Prop) : bodyC (algP W) Tryz.prog annF 11 [a0,a1] σ R = fn11 Tryz.prog W a0 a1 σ R := by kernel_rfl
def fn12 (Pr : Program) (W : CallP) (a0 a1 : PV) (σ : St) (R : Res → St → Prop) : Prop :=
oF (vLen .sl a0 σ) fun a =>
oF (vLen .sl a1 σ) fun b =>
bF .neq a b fun a =>
condW a (
wkR σ (.bool false) σ R) (
CutW σ (fun a =>
packW [(0,a0),(1,a1),(5,nI 0)] fun b =>
Lfp σ (fun c d e =>
oF (vLen .sl (d 0) e) fun f =>
bF .lss (d 5) f fun f =>
condW f (
oF (vIndex 5 (d 0) (d 5)) fun f =>
oF (vLoad true 5 f e) fun f =>
oF (vIndex 5 (d 1) (d 5)) fun g =>
oF (vLoad true 5 g e) fun g =>
oF (vBin (some (.st [.int,.int,.int,.int,.bool])) .neq f g) fun f =>
condW f (
wkR σ (.bool false) e R) (
bF .add (d 5) (nI 1) fun f =>
kF [(0,d 0),(1,d 1),(5,f)] c e)) (
kF [] a e)) b σ) (fun a a =>
wkR σ (.bool true) a R))
theorem fn12_eq (W : CallP) (a0 a1 : PV) (σ : St) (R : Res → St → Prop) : bodyC (algP W) Tryz.prog annF 12 [a0,a1] σ R = fn12 Tryz.prog W a0 a1 σ R := by kernel_rfl
def fn13 (Pr : Program) (W : CallP) (a0 : PV) (σ : St) (R : Res → St → Prop) : Prop :=
oF (vBin (some .ptr) .eql a0 .nilptr) fun a =>
condW a (
wkR σ nL σ R) (
lF a0 5 σ fun a =>
callB W 35 [a] σ (fun a b =>
oF (vLen .sl a b) fun c =>
packW [(3,a),(13,c),(14,nI 0)] fun a =>
Lfp σ (fun c d e =>
bF .lss (d 14) (d 13) fun f =>
condW f (
oF (vIndex 1 (d 3) (d 14)) fun f =>
oF (vField 0 f) fun f =>
oF (vLoad false 1 f e) fun f =>
callB W 34 [f] e (fun f g =>
oF (vIndex 1 (d 3) (d 14)) fun h =>
oF (vField 0 h) fun h =>
oF (vStore 1 h f g) fun f =>
bF .add (d 14) (nI 1) fun g =>
kF [(3,d 3),(13,d 13),(14,g)] c f) (pNR R)) (
wkR σ (d 3) e R)) a b) (pNR R))
theorem fn13_eq (W : CallP) (a0 : PV) (σ : St) (R : Res → St → Prop) : bodyC (algP W) Tryz.prog annF 13 [a0] σ R = fn13 Tryz.prog W a0 σ R := by kernel_rfl
def fn14 (Pr : Program) (W : CallP) (a0 a1 : PV) (σ : St) (R : Res → St → Prop) : Prop :=
callB W 33 [a0,a1] σ (fun a b =>
bF .neq a (nI 0) fun a =>
condW a (
wkR σ (nI 0) b R) (
lF a0 4 b fun a =>
lF a0 1 b fun c =>
oF (vIndex 2 c a1) fun c =>
oF (vField 1 c) fun c =>
oF (vLoad false 1 c b) fun c =>
oF (vLookup .int (nI 0) false a c b) fun a =>
wkR σ a b R)) (pNR R)
theorem fn14_eq (W : CallP) (a0 a1 : PV) (σ : St) (R : Res → St → Prop) : bodyC (algP W) Tryz.prog annF 14 [a0,a1] σ R = fn14 Tryz.prog W a0 a1 σ R := by kernel_rfl
def fn15 (Pr : Program) (W : CallP) (a0 a1 : PV) (σ : St) (R : Res → St → Prop) : Prop :=
callB W 33 [a0,a1] σ (fun a b =>
bF .neq a (nI 0) fun a =>
condW a (
wkR σ (nI 0) b R) (
lF a0 1 b fun a =>
oF (vIndex 2 a a1) fun a =>
oF (vField 0 a) fun a =>
oF (vLoad false 1 a b) fun a =>
oF (vLen .sl a b) fun a =>
wkR σ a b R)) (pNR R)
theorem fn15_eq (W : CallP) (a0 a1 : PV) (σ : St) (R : Res → St → Prop) : bodyC (algP W) Tryz.prog annF 15 [a0,a1] σ R = fn15 Tryz.prog W a0 a1 σ R := by kernel_rfl
def fn16 (Pr : Program) (W : CallP) (a0 a1 a2 : PV) (σ : St) (R : Res → St → Prop) : Prop :=
callB W 33 [a0,a1] σ (fun a b =>
bF .neq a (nI 0) fun c =>
condW c (
wkR σ (.tuple [(nI 0),(nI 0),a]) b R) (
lF a0 0 b fun a =>
oF (vIndex 6 a a1) fun a =>
oF (vLoad true 6 a b) fun a =>
oF (vPut 6 (.agg [(nI 0),(nI 0),nL,nL,(nI 0),(.bool false)]) 0 a) fun a =>
pF a 0 fun c =>
bF .neq c (nI 11) fun c =>
condW c (
wkR σ (.tuple [(nI 0),(nI 0),(nI 13)]) b R) (
bF .lss a2 (nI 0) fun c =>
gF c false (fun d =>
pF a 2 fun e =>
oF (vLen .sl e b) fun f =>
bF .geq a2 f fun g =>
d (lookE [(35,(.v a2)),(36,(.loc 10 2)),(37,(.v e)),(38,(.v f)),(39,(.v g))]) b) b (fun b d =>
oF (vPick c (.bool true) (b 39).pv) fun b =>
condW b (
wkR σ (.tuple [(nI 0),(nI 0),(nI 14)]) d R) (
pF a 2 fun b =>
oF (vSubSl 1 b none (some a2)) fun b =>
oF (vLen .sl b d) fun c =>
packW [(0,a0),(2,a2),(11,nI 0),(44,b),(45,c),(46,nI 0),(10,a)] fun a =>
Lfp σ (fun b c e =>
bF .lss (c 46) (c 45) fun f =>
condW f (
oF (vIndex 1 (c 44) (c 46)) fun f =>
oF (vLoad false 1 f e) fun f =>
callB W 15 [(c 0),f] e (fun f g =>
bF .add (c 11) f fun f =>
bF .add (c 46) (nI 1) fun h =>
kF [(0,c 0),(2,c 2),(11,f),(44,c 44),(45,c 45),(46,h),(10,c 10)] b g) (pNR R)) (
pF (c 10) 2 fun b =>
oF (vIndex 1 b (c 2)) fun b =>
oF (vLoad false 1 b e) fun b =>
wkR σ (.tuple [(c 11),b,(nI 0)]) e R)) a d))))) (pNR R)
theorem fn16_eq (W : CallP) (a0 a1 a2 : PV) (σ : St) (R : Res → St → Prop) : bodyC (algP W) Tryz.prog annF 16 [a0,a1,a2] σ R = fn16 Tryz.prog W a0 a1 a2 σ R := by kernel_rfl
def fn34 (Pr : Program) (W : CallP) (a0 : PV) (σ : St) (R : Res → St → Prop) : Prop :=
oF (vBin (some .sl) .eql a0 nL) fun a =>
condW a (
wkR σ nL σ R) (
oF (vBuildSl 5 (List.replicate 0 (.agg [(nI 0),(nI 0),(nI 0),(nI 0),(.bool false)])) []) fun a =>
bindS (vAppend 5 40 (.list .full a) a0 σ) fun a b =>
wkR σ a b R)
theorem fn34_eq (W : CallP) (a0 : PV) (σ : St) (R : Res → St → Prop) : bodyC (algP W) Tryz.prog annF 34 [a0] σ R = fn34 Tryz.prog W a0 σ R := by kernel_rfl
def fn35 (Pr : Program) (W : CallP) (a0 : PV) (σ : St) (R : Res → St → Prop) : Prop :=
oF (vBin (some .sl) .eql a0 nL) fun a =>
condW a (
wkR σ nL σ R) (
oF (vBuildSl 1 (List.replicate 0 (.agg [nL])) []) fun a =>
bindS (vAppend 1 24 (.list .full a) a0 σ) fun a b =>
wkR σ a b R)
theorem fn35_eq (W : CallP) (a0 : PV) (σ : St) (R : Res → St → Prop) : bodyC (algP W) Tryz.prog annF 35 [a0] σ R = fn35 Tryz.prog W a0 σ R := by kernel_rfl
end Go.Proofs.YteikomnahelckaaGreatDoor
