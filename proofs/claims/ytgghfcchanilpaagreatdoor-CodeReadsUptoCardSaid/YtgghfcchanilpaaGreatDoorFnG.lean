import Derived.KernelRfl
import Derived.Test.YtgghfcchanilpaaGreatDoorAnn
import Derived.Test.YtgghfcchanilpaaGreatDoorProg
set_option linter.unusedVariables false
set_option linter.unusedSimpArgs false
namespace Go.Proofs.YtgghfcchanilpaaGreatDoor
open Go Go.Abs
def uf (Pr : Program) (W : Q8) (a0 : PV) (σ : St) (R : Res → St → Prop) : Prop :=
X6 σ (fun a =>
QC [(0,a0),(3,(.int .u32 2166136261)),(4,nI 0)] fun b =>
Lfp σ (fun c d e =>
oF (Qj .str (d 0) e) fun f =>
bF .lss (d 4) f fun f =>
Q3 f (
oF (Xt (d 0) (d 4)) fun f =>
oF (XY .u32 f) fun f =>
bF .xor (d 3) f fun f =>
bF .mul f (.int .u32 16777619) fun f =>
bF .add (d 4) (nI 1) fun g =>
kF [(0,d 0),(3,f),(4,g)] c e) (
kF [(3,d 3)] a e)) b σ) (fun a b =>
wkR σ (a 3) b R)
theorem Ci (W : Q8) (a0 : PV) (σ : St) (R : Res → St → Prop) : Qn (Qq W) Tryz.prog QO 31 [a0] σ R = uf Tryz.prog W a0 σ R := by kernel_rfl
def ud (Pr : Program) (W : Q8) (a0 a1 : PV) (σ : St) (R : Res → St → Prop) : Prop :=
oF (opC.vBoxAny a0) fun a =>
oF (opC.vBoxAny a1) fun b =>
pF a.2 0 fun c =>
pF b.2 0 fun d =>
Q0 W 86 [c,d] σ (fun c d =>
oF (vUn .not c) fun c =>
gF c false (fun e =>
pF a.2 1 fun f =>
pF b.2 1 fun g =>
Q0 W 87 [f,g] d (fun h i =>
oF (vUn .not h) fun j =>
e (Q9 [(18,(.loc 2 1)),(19,(.v f)),(20,(.loc 3 1)),(21,(.v g)),(22,(.v h)),(23,(.v j))]) i) (pNR R)) d (fun d e =>
oF (Qc c (.bool true) (d 23).pv) fun c =>
gF c false (fun d =>
pF a.2 3 fun f =>
pF b.2 3 fun g =>
Q0 W 88 [f,g] e (fun h i =>
oF (vUn .not h) fun j =>
d (Q9 [(26,(.loc 2 3)),(27,(.v f)),(28,(.loc 3 3)),(29,(.v g)),(30,(.v h)),(31,(.v j))]) i) (pNR R)) e (fun d e =>
oF (Qc c (.bool true) (d 31).pv) fun c =>
gF c false (fun d =>
pF a.2 5 fun f =>
pF b.2 5 fun g =>
Q0 W 87 [f,g] e (fun h i =>
oF (vUn .not h) fun j =>
d (Q9 [(34,(.loc 2 5)),(35,(.v f)),(36,(.loc 3 5)),(37,(.v g)),(38,(.v h)),(39,(.v j))]) i) (pNR R)) e (fun d e =>
oF (Qc c (.bool true) (d 39).pv) fun c =>
gF c false (fun d =>
pF a.2 6 fun f =>
pF b.2 6 fun g =>
Q0 W 87 [f,g] e (fun h i =>
oF (vUn .not h) fun j =>
d (Q9 [(42,(.loc 2 6)),(43,(.v f)),(44,(.loc 3 6)),(45,(.v g)),(46,(.v h)),(47,(.v j))]) i) (pNR R)) e (fun d e =>
oF (Qc c (.bool true) (d 47).pv) fun c =>
gF c false (fun d =>
pF a.2 2 fun f =>
oF (Qj .sl f e) fun g =>
pF b.2 2 fun h =>
oF (Qj .sl h e) fun i =>
bF .neq g i fun j =>
d (Q9 [(50,(.loc 2 2)),(51,(.v f)),(52,(.v g)),(53,(.loc 3 2)),(54,(.v h)),(55,(.v i)),(56,(.v j))]) e) e (fun d e =>
oF (Qc c (.bool true) (d 56).pv) fun c =>
gF c false (fun d =>
pF a.2 4 fun f =>
oF (Qj .sl f e) fun g =>
pF b.2 4 fun h =>
oF (Qj .sl h e) fun i =>
bF .neq g i fun j =>
d (Q9 [(59,(.loc 2 4)),(60,(.v f)),(61,(.v g)),(62,(.loc 3 4)),(63,(.v h)),(64,(.v i)),(65,(.v j))]) e) e (fun d e =>
oF (Qc c (.bool true) (d 65).pv) fun c =>
gF c false (fun d =>
pF a.2 7 fun f =>
oF (Qj .sl f e) fun g =>
pF b.2 7 fun h =>
oF (Qj .sl h e) fun i =>
bF .neq g i fun j =>
d (Q9 [(68,(.loc 2 7)),(69,(.v f)),(70,(.v g)),(71,(.loc 3 7)),(72,(.v h)),(73,(.v i)),(74,(.v j))]) e) e (fun d e =>
oF (Qc c (.bool true) (d 74).pv) fun c =>
gF c false (fun d =>
pF a.2 8 fun f =>
oF (Qj .sl f e) fun g =>
pF b.2 8 fun h =>
oF (Qj .sl h e) fun i =>
bF .neq g i fun j =>
d (Q9 [(77,(.loc 2 8)),(78,(.v f)),(79,(.v g)),(80,(.loc 3 8)),(81,(.v h)),(82,(.v i)),(83,(.v j))]) e) e (fun d e =>
oF (Qc c (.bool true) (d 83).pv) fun c =>
gF c false (fun d =>
pF a.2 9 fun f =>
oF (Qj .sl f e) fun g =>
pF b.2 9 fun h =>
oF (Qj .sl h e) fun i =>
bF .neq g i fun j =>
d (Q9 [(86,(.loc 2 9)),(87,(.v f)),(88,(.v g)),(89,(.loc 3 9)),(90,(.v h)),(91,(.v i)),(92,(.v j))]) e) e (fun d e =>
oF (Qc c (.bool true) (d 92).pv) fun c =>
Q3 c (
wkR σ (.bool false) e R) (
X6 σ (fun c =>
QC [(5,(.bool true)),(6,nI 0),(2,a.2),(3,b.2)] fun a =>
Lfp σ (fun b d f =>
pF (d 2) 2 fun g =>
oF (Qj .sl g f) fun g =>
bF .lss (d 6) g fun g =>
Q3 g (
gF (d 5) true (fun g =>
pF (d 2) 2 fun h =>
oF (Q5 2 h (d 6)) fun i =>
oF (Q4 true 2 i f) fun j =>
pF (d 3) 2 fun k =>
oF (Q5 2 k (d 6)) fun l =>
oF (Q4 true 2 l f) fun m =>
oF (QR (some (.st [.int,.int])) .eql j m) fun n =>
g (Q9 [(103,(.loc 2 2)),(104,(.v h)),(105,(.v (d 6))),(106,(.v i)),(107,(.v j)),(108,(.loc 3 2)),(109,(.v k)),(110,(.v (d 6))),(111,(.v l)),(112,(.v m)),(113,(.v n))]) f) f (fun g h =>
oF (Qc (d 5) (g 113).pv (.bool false)) fun g =>
bF .add (d 6) (nI 1) fun i =>
kF [(5,g),(6,i),(2,d 2),(3,d 3)] b h)) (
kF [(5,d 5),(2,d 2),(3,d 3)] c f)) a e) (fun a b =>
X6 σ (fun c =>
QC [(5,a 5),(7,nI 0),(2,a 2),(3,a 3)] fun a =>
Lfp σ (fun d e f =>
pF (e 2) 4 fun g =>
oF (Qj .sl g f) fun g =>
bF .lss (e 7) g fun g =>
Q3 g (
gF (e 5) true (fun g =>
pF (e 2) 4 fun h =>
oF (Q5 12 h (e 7)) fun i =>
oF (Q4 true 12 i f) fun j =>
pF (e 3) 4 fun k =>
oF (Q5 12 k (e 7)) fun l =>
oF (Q4 true 12 l f) fun m =>
oF (QR (some (.st [.int,.int,.int,.int,.int,.int,.int,.int,.int,.int,.int,.int])) .eql j m) fun n =>
g (Q9 [(124,(.loc 2 4)),(125,(.v h)),(126,(.v (e 7))),(127,(.v i)),(128,(.v j)),(129,(.loc 3 4)),(130,(.v k)),(131,(.v (e 7))),(132,(.v l)),(133,(.v m)),(134,(.v n))]) f) f (fun g h =>
oF (Qc (e 5) (g 134).pv (.bool false)) fun g =>
bF .add (e 7) (nI 1) fun i =>
kF [(5,g),(7,i),(2,e 2),(3,e 3)] d h)) (
kF [(5,e 5),(2,e 2),(3,e 3)] c f)) a b) (fun a b =>
X6 σ (fun c =>
QC [(5,a 5),(8,nI 0),(2,a 2),(3,a 3)] fun a =>
Lfp σ (fun d e f =>
pF (e 2) 7 fun g =>
oF (Qj .sl g f) fun g =>
bF .lss (e 8) g fun g =>
Q3 g (
gF (e 5) true (fun g =>
pF (e 2) 7 fun h =>
oF (Q5 1 h (e 8)) fun i =>
oF (Q4 false 1 i f) fun j =>
pF (e 3) 7 fun k =>
oF (Q5 1 k (e 8)) fun l =>
oF (Q4 false 1 l f) fun m =>
bF .eql j m fun n =>
g (Q9 [(145,(.loc 2 7)),(146,(.v h)),(147,(.v (e 8))),(148,(.v i)),(149,(.v j)),(150,(.loc 3 7)),(151,(.v k)),(152,(.v (e 8))),(153,(.v l)),(154,(.v m)),(155,(.v n))]) f) f (fun g h =>
oF (Qc (e 5) (g 155).pv (.bool false)) fun g =>
bF .add (e 8) (nI 1) fun i =>
kF [(5,g),(8,i),(2,e 2),(3,e 3)] d h)) (
kF [(5,e 5),(2,e 2),(3,e 3)] c f)) a b) (fun a b =>
X6 σ (fun c =>
QC [(5,a 5),(9,nI 0),(2,a 2),(3,a 3)] fun a =>
Lfp σ (fun d e f =>
pF (e 2) 8 fun g =>
oF (Qj .sl g f) fun g =>
bF .lss (e 9) g fun g =>
Q3 g (
gF (e 5) true (fun g =>
pF (e 2) 8 fun h =>
oF (Q5 3 h (e 9)) fun i =>
oF (Q4 true 3 i f) fun j =>
pF (e 3) 8 fun k =>
oF (Q5 3 k (e 9)) fun l =>
oF (Q4 true 3 l f) fun m =>
oF (QR (some (.st [.str,.bool,.int])) .eql j m) fun n =>
g (Q9 [(166,(.loc 2 8)),(167,(.v h)),(168,(.v (e 9))),(169,(.v i)),(170,(.v j)),(171,(.loc 3 8)),(172,(.v k)),(173,(.v (e 9))),(174,(.v l)),(175,(.v m)),(176,(.v n))]) f) f (fun g h =>
oF (Qc (e 5) (g 176).pv (.bool false)) fun g =>
bF .add (e 9) (nI 1) fun i =>
kF [(5,g),(9,i),(2,e 2),(3,e 3)] d h)) (
kF [(5,e 5),(2,e 2),(3,e 3)] c f)) a b) (fun a b =>
X6 σ (fun c =>
QC [(5,a 5),(10,nI 0),(2,a 2),(3,a 3)] fun a =>
Lfp σ (fun d e f =>
pF (e 2) 9 fun g =>
oF (Qj .sl g f) fun g =>
bF .lss (e 10) g fun g =>
Q3 g (
gF (e 5) true (fun g =>
pF (e 2) 9 fun h =>
oF (Q5 2 h (e 10)) fun i =>
oF (Q4 true 2 i f) fun j =>
pF (e 3) 9 fun k =>
oF (Q5 2 k (e 10)) fun l =>
oF (Q4 true 2 l f) fun m =>
oF (QR (some (.st [.int,.int])) .eql j m) fun n =>
g (Q9 [(187,(.loc 2 9)),(188,(.v h)),(189,(.v (e 10))),(190,(.v i)),(191,(.v j)),(192,(.loc 3 9)),(193,(.v k)),(194,(.v (e 10))),(195,(.v l)),(196,(.v m)),(197,(.v n))]) f) f (fun g h =>
oF (Qc (e 5) (g 197).pv (.bool false)) fun g =>
bF .add (e 10) (nI 1) fun i =>
kF [(5,g),(10,i),(2,e 2),(3,e 3)] d h)) (
kF [(5,e 5)] c f)) a b) (fun a b =>
wkR σ (a 5) b R)))))))))))))))) (pNR R)
theorem Dk (W : Q8) (a0 a1 : PV) (σ : St) (R : Res → St → Prop) : Qn (Qq W) Tryz.prog QO 34 [a0,a1] σ R = ud Tryz.prog W a0 a1 σ R := by kernel_rfl
def wi (Pr : Program) (W : Q8) (a0 : PV) (σ : St) (R : Res → St → Prop) : Prop :=
oF (XY .u8 a0) fun a =>
bF .shr a0 (.int .u64 8) fun b =>
oF (XY .u8 b) fun b =>
bF .shr a0 (.int .u64 16) fun c =>
oF (XY .u8 c) fun c =>
bF .shr a0 (.int .u64 24) fun d =>
oF (XY .u8 d) fun d =>
oF (QI 1 (List.replicate 4 (.int .u8 0)) [(0,a),(1,b),(2,c),(3,d)]) fun a =>
wkR σ (.list .full a) σ R
theorem D8 (W : Q8) (a0 : PV) (σ : St) (R : Res → St → Prop) : Qn (Qq W) Tryz.prog QO 78 [a0] σ R = wi Tryz.prog W a0 σ R := by kernel_rfl
def wy (Pr : Program) (W : Q8) (a0 : PV) (σ : St) (R : Res → St → Prop) : Prop :=
X6 σ (fun a =>
oF (Qj .sl a0 σ) fun b =>
QC [(3,(.int .u32 2166136261)),(6,a0),(7,b),(8,nI 0)] fun b =>
Lfp σ (fun c d e =>
bF .lss (d 8) (d 7) fun f =>
Q3 f (
oF (Q5 1 (d 6) (d 8)) fun f =>
oF (Q4 false 1 f e) fun f =>
oF (XY .u32 f) fun f =>
bF .xor (d 3) f fun f =>
bF .mul f (.int .u32 16777619) fun f =>
bF .add (d 8) (nI 1) fun g =>
kF [(3,f),(6,d 6),(7,d 7),(8,g)] c e) (
kF [(3,d 3)] a e)) b σ) (fun a b =>
wkR σ (a 3) b R)
theorem Cb (W : Q8) (a0 : PV) (σ : St) (R : Res → St → Prop) : Qn (Qq W) Tryz.prog QO 79 [a0] σ R = wy Tryz.prog W a0 σ R := by kernel_rfl
def qp (Pr : Program) (W : Q8) (a0 a1 : PV) (σ : St) (R : Res → St → Prop) : Prop :=
oF (Qj .sl a0 σ) fun a =>
oF (Qj .sl a1 σ) fun b =>
bF .neq a b fun a =>
Q3 a (
wkR σ (.bool false) σ R) (
X6 σ (fun a =>
QC [(0,a0),(1,a1),(5,nI 0)] fun b =>
Lfp σ (fun c d e =>
oF (Qj .sl (d 0) e) fun f =>
bF .lss (d 5) f fun f =>
Q3 f (
X6 σ (fun f =>
oF (Q5 1 (d 0) (d 5)) fun g =>
oF (Qh 0 g) fun g =>
oF (Q4 false 1 g e) fun g =>
oF (Qj .sl g e) fun g =>
oF (Q5 1 (d 1) (d 5)) fun h =>
oF (Qh 0 h) fun h =>
oF (Q4 false 1 h e) fun h =>
oF (Qj .sl h e) fun h =>
bF .neq g h fun g =>
Q3 g (
wkR σ (.bool false) e R) (
QC [(0,d 0),(1,d 1),(5,d 5),(6,nI 0)] fun d =>
Lfp σ (fun g h i =>
oF (Q5 1 (h 0) (h 5)) fun j =>
oF (Qh 0 j) fun j =>
oF (Q4 false 1 j i) fun j =>
oF (Qj .sl j i) fun j =>
bF .lss (h 6) j fun j =>
Q3 j (
oF (Q5 1 (h 0) (h 5)) fun j =>
oF (Qh 0 j) fun j =>
oF (Q4 false 1 j i) fun j =>
oF (Q5 5 j (h 6)) fun j =>
oF (Q4 true 5 j i) fun j =>
oF (Q5 1 (h 1) (h 5)) fun k =>
oF (Qh 0 k) fun k =>
oF (Q4 false 1 k i) fun k =>
oF (Q5 5 k (h 6)) fun k =>
oF (Q4 true 5 k i) fun k =>
oF (QR (some (.st [.int,.int,.int,.int,.bool])) .neq j k) fun j =>
Q3 j (
wkR σ (.bool false) i R) (
bF .add (h 6) (nI 1) fun j =>
kF [(0,h 0),(1,h 1),(5,h 5),(6,j)] g i)) (
kF [(0,h 0),(1,h 1),(5,h 5)] f i)) d e)) (fun d f =>
bF .add (d 5) (nI 1) fun g =>
kF [(0,d 0),(1,d 1),(5,g)] c f)) (
kF [] a e)) b σ) (fun a a =>
wkR σ (.bool true) a R))
theorem Df (W : Q8) (a0 a1 : PV) (σ : St) (R : Res → St → Prop) : Qn (Qq W) Tryz.prog QO 86 [a0,a1] σ R = qp Tryz.prog W a0 a1 σ R := by kernel_rfl
def wm (Pr : Program) (W : Q8) (a0 a1 : PV) (σ : St) (R : Res → St → Prop) : Prop :=
oF (Qj .sl a0 σ) fun a =>
oF (Qj .sl a1 σ) fun b =>
bF .neq a b fun a =>
Q3 a (
wkR σ (.bool false) σ R) (
X6 σ (fun a =>
QC [(0,a0),(1,a1),(5,nI 0)] fun b =>
Lfp σ (fun c d e =>
oF (Qj .sl (d 0) e) fun f =>
bF .lss (d 5) f fun f =>
Q3 f (
oF (Q5 1 (d 0) (d 5)) fun f =>
oF (Q4 false 1 f e) fun f =>
oF (Q5 1 (d 1) (d 5)) fun g =>
oF (Q4 false 1 g e) fun g =>
Q0 W 28 [f,g] e (fun f g =>
oF (vUn .not f) fun f =>
Q3 f (
wkR σ (.bool false) g R) (
bF .add (d 5) (nI 1) fun f =>
kF [(0,d 0),(1,d 1),(5,f)] c g)) (pNR R)) (
kF [] a e)) b σ) (fun a a =>
wkR σ (.bool true) a R))
theorem C8 (W : Q8) (a0 a1 : PV) (σ : St) (R : Res → St → Prop) : Qn (Qq W) Tryz.prog QO 87 [a0,a1] σ R = wm Tryz.prog W a0 a1 σ R := by kernel_rfl
def wa (Pr : Program) (W : Q8) (a0 a1 : PV) (σ : St) (R : Res → St → Prop) : Prop :=
oF (Qj .sl a0 σ) fun a =>
oF (Qj .sl a1 σ) fun b =>
bF .neq a b fun a =>
Q3 a (
wkR σ (.bool false) σ R) (
X6 σ (fun a =>
QC [(0,a0),(1,a1),(5,nI 0)] fun b =>
Lfp σ (fun c d e =>
oF (Qj .sl (d 0) e) fun f =>
bF .lss (d 5) f fun f =>
Q3 f (
X6 σ (fun f =>
((oF (Q5 9 (d 0) (d 5)) fun g =>
oF (Q4 true 9 g e) fun g =>
oF (Q5 9 (d 1) (d 5)) fun h =>
oF (Q4 true 9 h e) fun h =>
oF (Qv 9 (.agg [(nI 0),(nI 0),(nI 0),(nI 0),(nI 0),(nI 0),(nI 0),(nI 0),nL]) 0 g) fun g =>
oF (Qv 9 (.agg [(nI 0),(nI 0),(nI 0),(nI 0),(nI 0),(nI 0),(nI 0),(nI 0),nL]) 0 h) fun h =>
pF g 0 fun i =>
pF h 0 fun j =>
bF .neq i j fun i =>
gF i false (fun j =>
pF g 1 fun k =>
pF h 1 fun l =>
bF .neq k l fun m =>
j (Q9 [(34,(.loc 6 1)),(35,(.v k)),(36,(.loc 7 1)),(37,(.v l)),(38,(.v m))]) e) e (fun j k =>
oF (Qc i (.bool true) (j 38).pv) fun i =>
gF i false (fun j =>
pF g 2 fun l =>
pF h 2 fun m =>
bF .neq l m fun n =>
j (Q9 [(41,(.loc 6 2)),(42,(.v l)),(43,(.loc 7 2)),(44,(.v m)),(45,(.v n))]) k) k (fun j k =>
oF (Qc i (.bool true) (j 45).pv) fun i =>
gF i false (fun j =>
pF g 3 fun l =>
pF h 3 fun m =>
bF .neq l m fun n =>
j (Q9 [(48,(.loc 6 3)),(49,(.v l)),(50,(.loc 7 3)),(51,(.v m)),(52,(.v n))]) k) k (fun j k =>
oF (Qc i (.bool true) (j 52).pv) fun i =>
gF i false (fun j =>
pF g 4 fun l =>
pF h 4 fun m =>
bF .neq l m fun n =>
j (Q9 [(55,(.loc 6 4)),(56,(.v l)),(57,(.loc 7 4)),(58,(.v m)),(59,(.v n))]) k) k (fun j k =>
oF (Qc i (.bool true) (j 59).pv) fun i =>
gF i false (fun j =>
pF g 5 fun l =>
pF h 5 fun m =>
bF .neq l m fun n =>
j (Q9 [(62,(.loc 6 5)),(63,(.v l)),(64,(.loc 7 5)),(65,(.v m)),(66,(.v n))]) k) k (fun j k =>
oF (Qc i (.bool true) (j 66).pv) fun i =>
gF i false (fun j =>
pF g 6 fun l =>
pF h 6 fun m =>
bF .neq l m fun n =>
j (Q9 [(69,(.loc 6 6)),(70,(.v l)),(71,(.loc 7 6)),(72,(.v m)),(73,(.v n))]) k) k (fun j k =>
oF (Qc i (.bool true) (j 73).pv) fun i =>
gF i false (fun j =>
pF g 7 fun l =>
pF h 7 fun m =>
bF .neq l m fun n =>
j (Q9 [(76,(.loc 6 7)),(77,(.v l)),(78,(.loc 7 7)),(79,(.v m)),(80,(.v n))]) k) k (fun j k =>
oF (Qc i (.bool true) (j 80).pv) fun i =>
gF i false (fun j =>
pF g 8 fun l =>
oF (Qj .sl l k) fun m =>
pF h 8 fun n =>
oF (Qj .sl n k) fun o =>
bF .neq m o fun p =>
j (Q9 [(83,(.loc 6 8)),(84,(.v l)),(85,(.v m)),(86,(.loc 7 8)),(87,(.v n)),(88,(.v o)),(89,(.v p))]) k) k (fun j k =>
oF (Qc i (.bool true) (j 89).pv) fun i =>
Q3 i (
wkR σ (.bool false) k R) (
QC [(0,d 0),(1,d 1),(5,d 5),(8,nI 0),(6,g),(7,h)] fun g =>
Lfp σ (fun h i j =>
pF (i 6) 8 fun l =>
oF (Qj .sl l j) fun l =>
bF .lss (i 8) l fun l =>
Q3 l (
pF (i 6) 8 fun l =>
oF (Q5 3 l (i 8)) fun l =>
oF (Q4 true 3 l j) fun l =>
pF (i 7) 8 fun m =>
oF (Q5 3 m (i 8)) fun m =>
oF (Q4 true 3 m j) fun m =>
oF (QR (some (.st [.int,.int,.int])) .neq l m) fun l =>
Q3 l (
wkR σ (.bool false) j R) (
bF .add (i 8) (nI 1) fun l =>
kF [(0,i 0),(1,i 1),(5,i 5),(8,l),(6,i 6),(7,i 7)] h j)) (
kF [(0,i 0),(1,i 1),(5,i 5)] f j)) g k)))))))))) ∧ (oF (Q5 9 (d 0) (d 5)) fun g =>
oF (Q4 true 9 g e) fun g =>
oF (Q5 9 (d 1) (d 5)) fun h =>
oF (Q4 true 9 h e) fun h =>
oF (Qv 9 (.agg [(nI 0),(nI 0),(nI 0),(nI 0),(nI 0),(nI 0),(nI 0),(nI 0),nL]) 0 g) fun g =>
oF (Qv 9 (.agg [(nI 0),(nI 0),(nI 0),(nI 0),(nI 0),(nI 0),(nI 0),(nI 0),nL]) 0 h) fun h =>
pF g 0 fun i =>
pF h 0 fun j =>
bF .neq i j fun i =>
gF i false (fun j =>
pF g 1 fun k =>
pF h 1 fun l =>
bF .neq k l fun m =>
j (Q9 [(34,(.loc 6 1)),(35,(.v k)),(36,(.loc 7 1)),(37,(.v l)),(38,(.v m))]) e) e (fun j k =>
oF (Qc i (.bool true) (j 38).pv) fun i =>
gF i false (fun j =>
pF g 2 fun l =>
pF h 2 fun m =>
bF .neq l m fun n =>
j (Q9 [(41,(.loc 6 2)),(42,(.v l)),(43,(.loc 7 2)),(44,(.v m)),(45,(.v n))]) k) k (fun j k =>
oF (Qc i (.bool true) (j 45).pv) fun i =>
gF i false (fun j =>
pF g 3 fun l =>
pF h 3 fun m =>
bF .neq l m fun n =>
j (Q9 [(48,(.loc 6 3)),(49,(.v l)),(50,(.loc 7 3)),(51,(.v m)),(52,(.v n))]) k) k (fun j k =>
oF (Qc i (.bool true) (j 52).pv) fun i =>
gF i false (fun j =>
pF g 4 fun l =>
pF h 4 fun m =>
bF .neq l m fun n =>
j (Q9 [(55,(.loc 6 4)),(56,(.v l)),(57,(.loc 7 4)),(58,(.v m)),(59,(.v n))]) k) k (fun j k =>
oF (Qc i (.bool true) (j 59).pv) fun i =>
gF i false (fun j =>
pF g 5 fun l =>
pF h 5 fun m =>
bF .neq l m fun n =>
j (Q9 [(62,(.loc 6 5)),(63,(.v l)),(64,(.loc 7 5)),(65,(.v m)),(66,(.v n))]) k) k (fun j k =>
oF (Qc i (.bool true) (j 66).pv) fun i =>
gF i false (fun j =>
pF g 6 fun l =>
pF h 6 fun m =>
bF .neq l m fun n =>
j (Q9 [(69,(.loc 6 6)),(70,(.v l)),(71,(.loc 7 6)),(72,(.v m)),(73,(.v n))]) k) k (fun j k =>
oF (Qc i (.bool true) (j 73).pv) fun i =>
gF i false (fun j =>
pF g 7 fun l =>
pF h 7 fun m =>
bF .neq l m fun n =>
j (Q9 [(76,(.loc 6 7)),(77,(.v l)),(78,(.loc 7 7)),(79,(.v m)),(80,(.v n))]) k) k (fun j k =>
oF (Qc i (.bool true) (j 80).pv) fun i =>
gF i false (fun j =>
pF g 8 fun l =>
oF (Qj .sl l k) fun m =>
pF h 8 fun n =>
oF (Qj .sl n k) fun o =>
bF .neq m o fun p =>
j (Q9 [(83,(.loc 6 8)),(84,(.v l)),(85,(.v m)),(86,(.loc 7 8)),(87,(.v n)),(88,(.v o)),(89,(.v p))]) k) k (fun j k =>
oF (Qc i (.bool true) (j 89).pv) fun i =>
Q3 i (
wkR σ (.bool false) k R) (
QC [(0,d 0),(1,d 1),(5,d 5),(8,nI 0),(6,g),(7,h)] fun d =>
Lfp σ (fun g h i =>
pF (h 6) 8 fun j =>
oF (Qj .sl j i) fun j =>
bF .lss (h 8) j fun j =>
Q3 j (
pF (h 6) 8 fun j =>
oF (Q5 3 j (h 8)) fun j =>
oF (Q4 true 3 j i) fun j =>
pF (h 7) 8 fun l =>
oF (Q5 3 l (h 8)) fun l =>
oF (Q4 true 3 l i) fun l =>
oF (QR (some (.st [.int,.int,.int])) .neq j l) fun j =>
Q3 j (
wkR σ (.bool false) i R) (
bF .add (h 8) (nI 1) fun j =>
kF [(0,h 0),(1,h 1),(5,h 5),(8,j),(6,h 6),(7,h 7)] g i)) (
kF [(0,h 0),(1,h 1),(5,h 5)] f i)) d k)))))))))))) (fun d f =>
bF .add (d 5) (nI 1) fun g =>
kF [(0,d 0),(1,d 1),(5,g)] c f)) (
kF [] a e)) b σ) (fun a a =>
wkR σ (.bool true) a R))
theorem Cj (W : Q8) (a0 a1 : PV) (σ : St) (R : Res → St → Prop) : Qn (Qq W) Tryz.prog QO 88 [a0,a1] σ R = wa Tryz.prog W a0 a1 σ R := by kernel_rfl
end Go.Proofs.YtgghfcchanilpaaGreatDoor
