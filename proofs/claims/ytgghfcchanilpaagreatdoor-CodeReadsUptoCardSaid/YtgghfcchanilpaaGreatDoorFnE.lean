import Derived.KernelRfl
import Derived.Test.YtgghfcchanilpaaGreatDoorAnn
import Derived.Test.YtgghfcchanilpaaGreatDoorProg
set_option linter.unusedVariables false
set_option linter.unusedSimpArgs false
namespace Go.Proofs.YtgghfcchanilpaaGreatDoor
open Go Go.Abs
def Al (Pr : Program) (W : Q8) (a0 a1 : PV) (σ : St) (R : Res → St → Prop) : Prop :=
oF (opC.vBoxAny a0) fun a =>
pF a.2 4 fun b =>
oF (Q5 12 b a1) fun b =>
oF (Q4 true 12 b σ) fun b =>
oF (Qv 12 (.agg [(nI 0),(nI 0),(nI 0),(nI 0),(nI 0),(nI 0),(nI 0),(nI 0),(nI 0),(nI 0),(nI 0),(nI 0)]) 0 b) fun b =>
pF b 0 fun c =>
Q0 W 39 [c] σ (fun c d =>
oF (vUn .not c) fun c =>
Q3 c (
wkR σ (nI 13) d R) (
oF (Q6 true 12 a.2 0) fun c =>
Q0 W 72 [c,a1] d (fun c d =>
pF b 0 fun e =>
oF (TL 2 40 e) fun k13 =>
oF (Qh k13 (Zy 0)) fun e =>
oF (Qh 1 e) fun e =>
oF (Q4 false 1 e d) fun e =>
oF (Q6 true 3 b 1) fun f =>
oF (Q6 true 3 b 4) fun g =>
oF (Q6 true 3 b 7) fun h =>
oF (QI 3 (List.replicate 3 (.agg [(nI 0),(nI 0),(nI 0)])) [(0,f),(1,g),(2,h)]) fun f =>
oF (Qj .sl (.list .full f) d) fun g =>
QC [(6,c),(7,e),(34,(.list .full f)),(35,g),(36,nI 0),(2,a.2),(5,b)] fun a =>
Lfp σ (fun b c e =>
bF .lss (c 36) (c 35) fun f =>
Q3 f (
oF (Q5 3 (c 34) (c 36)) fun f =>
oF (Q4 true 3 f e) fun f =>
oF (Qv 3 (.agg [(nI 0),(nI 0),(nI 0)]) 0 f) fun f =>
oF (Q6 true 12 (c 2) 0) fun g =>
oF (Q6 true 3 f 0) fun f =>
oF (Xt (c 7) (c 36)) fun h =>
Q0 W 118 [g,f,h,(c 6)] e (fun f g =>
oF (vUn .not f) fun f =>
Q3 f (
wkR σ (nI 7) g R) (
bF .add (c 36) (nI 1) fun f =>
kF [(6,c 6),(7,c 7),(34,c 34),(35,c 35),(36,f),(2,c 2),(5,c 5)] b g)) (pNR R)) (
oF (Q6 true 12 (c 2) 0) fun b =>
oF (Q6 true 12 (c 5) 0) fun f =>
oF (Xt (c 7) (nI 3)) fun g =>
Q0 W 119 [b,f,g,(c 6)] e (fun b e =>
oF (vUn .not b) fun b =>
gF b false (fun f =>
oF (Q6 true 12 (c 2) 0) fun g =>
oF (Q6 true 12 (c 5) 0) fun h =>
oF (Xt (c 7) (nI 4)) fun i =>
Q0 W 120 [g,h,i,(c 6)] e (fun j k =>
oF (vUn .not j) fun l =>
f (Q9 [(58,(.v g)),(59,(.v h)),(60,(.v (c 7))),(61,(.v i)),(62,(.v (c 6))),(63,(.v j)),(64,(.v l))]) k) (pNR R)) e (fun e f =>
oF (Qc b (.bool true) (e 64).pv) fun b =>
Q3 b (
wkR σ (nI 11) f R) (
oF (Q6 true 12 (c 2) 0) fun b =>
oF (Q6 true 12 (c 5) 0) fun e =>
Q0 W 121 [b,e,(c 6)] f (fun b c =>
wkR σ b c R) (pNR R)))) (pNR R))) a d) (pNR R))) (pNR R)
theorem DR (W : Q8) (a0 a1 : PV) (σ : St) (R : Res → St → Prop) : Qn (Qq W) Tryz.prog QO 63 [a0,a1] σ R = Al Tryz.prog W a0 a1 σ R := by kernel_rfl
def qh (Pr : Program) (W : Q8) (a0 a1 : PV) (σ : St) (R : Res → St → Prop) : Prop :=
oF (opC.vBoxAny a0) fun a =>
pF a.2 3 fun b =>
oF (Q5 9 b a1) fun b =>
oF (Q4 true 9 b σ) fun b =>
oF (Qv 9 (.agg [(nI 0),(nI 0),(nI 0),(nI 0),(nI 0),(nI 0),(nI 0),(nI 0),nL]) 0 b) fun b =>
pF b 0 fun c =>
pF a.2 2 fun d =>
oF (Qj .sl d σ) fun d =>
Q0 W 75 [c,d] σ (fun c d =>
oF (vUn .not c) fun c =>
gF c false (fun e =>
pF b 1 fun f =>
pF a.2 0 fun g =>
oF (Qj .sl g d) fun h =>
Q0 W 75 [f,h] d (fun i j =>
oF (vUn .not i) fun k =>
e (Q9 [(25,(.loc 5 1)),(26,(.v f)),(27,(.loc 2 0)),(28,(.v g)),(29,(.v h)),(30,(.v i)),(31,(.v k))]) j) (pNR R)) d (fun d e =>
oF (Qc c (.bool true) (d 31).pv) fun c =>
gF c false (fun d =>
bF .eql a1 (nI 0) fun f =>
d (Q9 [(34,(.v a1)),(35,(.v f)),(36,(.v f))]) e) e (fun d e =>
gF (d 36).pv true (fun f =>
pF b 4 fun g =>
bF .neq g (nI (-1)) fun h =>
f (Q9 [(37,(.loc 5 4)),(38,(.v g)),(39,(.v h))]) e) e (fun e f =>
gF c false (fun g =>
oF (Qc (d 36).pv (e 39).pv (.bool false)) fun d =>
g (Q9 [(40,(.v d))]) f) f (fun d e =>
oF (Qc c (.bool true) (d 40).pv) fun c =>
gF c false (fun d =>
bF .gtr a1 (nI 0) fun f =>
d (Q9 [(43,(.v a1)),(44,(.v f)),(45,(.v f))]) e) e (fun d e =>
gF (d 45).pv true (fun f =>
pF b 4 fun g =>
Q0 W 75 [g,a1] e (fun h i =>
oF (vUn .not h) fun j =>
f (Q9 [(46,(.loc 5 4)),(47,(.v g)),(48,(.v a1)),(49,(.v h)),(50,(.v j))]) i) (pNR R)) e (fun e f =>
gF c false (fun g =>
oF (Qc (d 45).pv (e 50).pv (.bool false)) fun d =>
g (Q9 [(51,(.v d))]) f) f (fun d e =>
oF (Qc c (.bool true) (d 51).pv) fun c =>
Q3 c (
wkR σ (nI 11) e R) (
pF b 8 fun c =>
oF (Qj .sl c e) fun c =>
bF .eql c (nI 0) fun c =>
Q3 c (
wkR σ (nI 12) e R) (
X6 σ (fun c =>
bF .gtr a1 (nI 0) fun d =>
Q3 d (
pF a.2 3 fun d =>
bF .sub a1 (nI 1) fun f =>
oF (Q5 9 d f) fun d =>
oF (Qh 3 d) fun d =>
oF (Q4 false 1 d e) fun d =>
kF [(1,a1),(6,d),(2,a.2),(5,b)] c e) (
kF [(1,a1),(6,nI 0),(2,a.2),(5,b)] c e)) (fun a b =>
pF (a 5) 2 fun c =>
bF .neq c (a 6) fun c =>
gF c false (fun d =>
pF (a 5) 3 fun e =>
pF (a 5) 2 fun f =>
bF .leq e f fun g =>
d (Q9 [(71,(.loc 5 3)),(72,(.v e)),(73,(.loc 5 2)),(74,(.v f)),(75,(.v g))]) b) b (fun b d =>
oF (Qc c (.bool true) (b 75).pv) fun b =>
gF b false (fun c =>
pF (a 2) 3 fun e =>
oF (Qj .sl e d) fun f =>
bF .sub f (nI 1) fun g =>
bF .eql (a 1) g fun h =>
c (Q9 [(78,(.v (a 1))),(79,(.loc 2 3)),(80,(.v e)),(81,(.v f)),(82,(.v g)),(83,(.v h)),(84,(.v h))]) d) d (fun c d =>
gF (c 84).pv true (fun e =>
pF (a 5) 3 fun f =>
pF (a 2) 4 fun g =>
oF (Qj .sl g d) fun h =>
bF .neq f h fun i =>
e (Q9 [(85,(.loc 5 3)),(86,(.v f)),(87,(.loc 2 4)),(88,(.v g)),(89,(.v h)),(90,(.v i))]) d) d (fun d e =>
gF b false (fun f =>
oF (Qc (c 84).pv (d 90).pv (.bool false)) fun c =>
f (Q9 [(91,(.v c))]) e) e (fun c d =>
oF (Qc b (.bool true) (c 91).pv) fun b =>
Q3 b (
wkR σ (nI 10) d R) (
oF (Q6 true 10 (a 2) 0) fun b =>
Q0 W 124 [b,(a 1)] d (fun b c =>
oF (vUn .not b) fun b =>
Q3 b (
wkR σ (nI 14) c R) (
pF (a 2) 0 fun b =>
pF (a 5) 1 fun d =>
oF (Q5 1 b d) fun b =>
oF (Qh 0 b) fun b =>
oF (Q4 false 1 b c) fun b =>
oF (Qj .sl b c) fun b =>
pF (a 2) 0 fun d =>
pF (a 2) 2 fun e =>
pF (a 5) 0 fun f =>
oF (Q5 2 e f) fun e =>
oF (Qh 1 e) fun e =>
oF (Q4 false 1 e c) fun e =>
oF (Q5 1 d e) fun d =>
oF (Qh 0 d) fun d =>
oF (Q4 false 1 d c) fun d =>
oF (Qj .sl d c) fun d =>
X6 σ (fun e =>
QC [(1,a 1),(7,b),(8,d),(9,nI 0),(2,a 2),(5,a 5)] fun a =>
Lfp σ (fun b d f =>
pF (d 5) 8 fun g =>
oF (Qj .sl g f) fun g =>
bF .lss (d 9) g fun g =>
Q3 g (
pF (d 5) 8 fun g =>
oF (Q5 3 g (d 9)) fun g =>
oF (Q4 true 3 g f) fun g =>
oF (Qv 3 (.agg [(nI 0),(nI 0),(nI 0)]) 0 g) fun g =>
bF .eql (d 9) (nI 0) fun h =>
gF h true (fun i =>
pF g 0 fun j =>
bF .neq j (nI (-1)) fun k =>
i (Q9 [(133,(.loc 10 0)),(134,(.v j)),(135,(.v k))]) f) f (fun i j =>
oF (Qc h (i 135).pv (.bool false)) fun h =>
gF h false (fun i =>
bF .gtr (d 9) (nI 0) fun k =>
i (Q9 [(138,(.v (d 9))),(139,(.v k)),(140,(.v k))]) j) j (fun i j =>
gF (i 140).pv true (fun k =>
pF g 0 fun l =>
Q0 W 75 [l,(d 9)] j (fun m n =>
oF (vUn .not m) fun o =>
k (Q9 [(141,(.loc 10 0)),(142,(.v l)),(143,(.v (d 9))),(144,(.v m)),(145,(.v o))]) n) (pNR R)) j (fun j k =>
gF h false (fun l =>
oF (Qc (i 140).pv (j 145).pv (.bool false)) fun i =>
l (Q9 [(146,(.v i))]) k) k (fun i j =>
oF (Qc h (.bool true) (i 146).pv) fun h =>
Q3 h (
wkR σ (nI 10) j R) (
pF g 1 fun h =>
bF .lss h (d 8) fun h =>
gF h false (fun i =>
pF g 2 fun k =>
pF g 1 fun l =>
bF .lss k l fun m =>
i (Q9 [(153,(.loc 10 2)),(154,(.v k)),(155,(.loc 10 1)),(156,(.v l)),(157,(.v m))]) j) j (fun i j =>
oF (Qc h (.bool true) (i 157).pv) fun h =>
gF h false (fun i =>
pF g 2 fun g =>
bF .gtr g (d 7) fun k =>
i (Q9 [(160,(.loc 10 2)),(161,(.v g)),(162,(.v (d 7))),(163,(.v k))]) j) j (fun g i =>
oF (Qc h (.bool true) (g 163).pv) fun g =>
Q3 g (
wkR σ (nI 11) i R) (
bF .add (d 9) (nI 1) fun g =>
kF [(1,d 1),(7,d 7),(8,d 8),(9,g),(2,d 2),(5,d 5)] b i))))))))) (
kF [(1,d 1),(2,d 2),(5,d 5)] e f)) a c) (fun a b =>
bF .eql (a 1) (nI 0) fun c =>
gF c true (fun d =>
pF (a 5) 5 fun e =>
bF .neq e (nI (-1)) fun f =>
d (Q9 [(168,(.loc 5 5)),(169,(.v e)),(170,(.v f))]) b) b (fun b d =>
oF (Qc c (b 170).pv (.bool false)) fun b =>
gF b false (fun c =>
bF .gtr (a 1) (nI 0) fun e =>
c (Q9 [(173,(.v (a 1))),(174,(.v e)),(175,(.v e))]) d) d (fun c d =>
gF (c 175).pv true (fun e =>
pF (a 5) 5 fun f =>
pF (a 2) 3 fun g =>
pF (a 5) 4 fun h =>
oF (Q5 9 g h) fun i =>
oF (Qh 8 i) fun j =>
oF (Q4 false 1 j d) fun k =>
oF (Qj .sl k d) fun l =>
Q0 W 75 [f,l] d (fun m n =>
oF (vUn .not m) fun o =>
e (Q9 [(176,(.loc 5 5)),(177,(.v f)),(178,(.loc 2 3)),(179,(.v g)),(180,(.loc 5 4)),(181,(.v h)),(182,(.v i)),(183,(.v j)),(184,(.v k)),(185,(.v l)),(186,(.v m)),(187,(.v o))]) n) (pNR R)) d (fun d e =>
gF b false (fun f =>
oF (Qc (c 175).pv (d 187).pv (.bool false)) fun c =>
f (Q9 [(188,(.v c))]) e) e (fun c d =>
oF (Qc b (.bool true) (c 188).pv) fun b =>
gF b false (fun c =>
pF (a 5) 6 fun e =>
bF .lss e (nI 0) fun f =>
c (Q9 [(191,(.loc 5 6)),(192,(.v e)),(193,(.v f))]) d) d (fun c d =>
oF (Qc b (.bool true) (c 193).pv) fun b =>
gF b false (fun c =>
pF (a 5) 6 fun e =>
bF .eql e (nI 0) fun f =>
c (Q9 [(196,(.loc 5 6)),(197,(.v e)),(198,(.v f)),(199,(.v f))]) d) d (fun c d =>
gF (c 199).pv true (fun e =>
pF (a 5) 7 fun f =>
bF .neq f (nI 0) fun g =>
e (Q9 [(200,(.loc 5 7)),(201,(.v f)),(202,(.v g))]) d) d (fun d e =>
gF b false (fun f =>
oF (Qc (c 199).pv (d 202).pv (.bool false)) fun c =>
f (Q9 [(203,(.v c))]) e) e (fun c d =>
oF (Qc b (.bool true) (c 203).pv) fun b =>
Q3 b (
wkR σ (nI 11) d R) (
X6 σ (fun b =>
pF (a 5) 6 fun c =>
bF .gtr c (nI 0) fun c =>
Q3 c (
oF (Q6 true 10 (a 2) 0) fun c =>
pF (a 5) 6 fun e =>
Q0 W 125 [c,(a 1),e] d (fun c e =>
bF .lss c (nI 0) fun f =>
gF f false (fun g =>
pF (a 5) 7 fun h =>
pF (a 2) 3 fun a =>
oF (Q5 9 a c) fun i =>
oF (Qh 8 i) fun j =>
oF (Q4 false 1 j e) fun k =>
oF (Qj .sl k e) fun l =>
Q0 W 75 [h,l] e (fun m n =>
oF (vUn .not m) fun o =>
g (Q9 [(216,(.loc 5 7)),(217,(.v h)),(218,(.loc 2 3)),(219,(.v a)),(220,(.v c)),(221,(.v i)),(222,(.v j)),(223,(.v k)),(224,(.v l)),(225,(.v m)),(226,(.v o))]) n) (pNR R)) e (fun a c =>
oF (Qc f (.bool true) (a 226).pv) fun a =>
Q3 a (
wkR σ (nI 11) c R) (
kF [] b c))) (pNR R)) (
kF [] b d)) (fun a a =>
wkR σ (nI 0) a R))))))))))))) (pNR R))))))))))))))))) (pNR R)
theorem DZ (W : Q8) (a0 a1 : PV) (σ : St) (R : Res → St → Prop) : Qn (Qq W) Tryz.prog QO 66 [a0,a1] σ R = qh Tryz.prog W a0 a1 σ R := by kernel_rfl
def Aj (Pr : Program) (W : Q8) (a0 a1 a2 a3 a4 : PV) (σ : St) (R : Res → St → Prop) : Prop :=
oF (opC.vBoxAny a0) fun a =>
oF (opC.vBoxAny a2) fun b =>
pF b.2 0 fun c =>
Q0 W 18 [c] σ (fun c d =>
bF .eql c (.str []) fun e =>
Q3 e (
wkR σ (nI 13) d R) (
oF (Q6 true 10 a.2 0) fun e =>
oF (Q6 true 3 b.2 1) fun f =>
oF (Xt c (nI 0)) fun g =>
Q0 W 132 [e,a1,f,g] d (fun d e =>
oF (vUn .not d) fun d =>
gF d false (fun f =>
oF (Q6 true 10 a.2 0) fun g =>
oF (Q6 true 3 b.2 4) fun h =>
oF (Xt c (nI 1)) fun i =>
Q0 W 132 [g,a1,h,i] e (fun j k =>
oF (vUn .not j) fun l =>
f (Q9 [(30,(.v g)),(31,(.v a1)),(32,(.loc 7 4)),(33,(.v h)),(34,(.v c)),(35,(.v i)),(36,(.v j)),(37,(.v l))]) k) (pNR R)) e (fun e f =>
oF (Qc d (.bool true) (e 37).pv) fun d =>
gF d false (fun e =>
oF (Q6 true 10 a.2 0) fun g =>
oF (Q6 true 3 b.2 7) fun h =>
oF (Xt c (nI 2)) fun i =>
Q0 W 132 [g,a1,h,i] f (fun j k =>
oF (vUn .not j) fun l =>
e (Q9 [(40,(.v g)),(41,(.v a1)),(42,(.loc 7 7)),(43,(.v h)),(44,(.v c)),(45,(.v i)),(46,(.v j)),(47,(.v l))]) k) (pNR R)) f (fun e f =>
oF (Qc d (.bool true) (e 47).pv) fun d =>
Q3 d (
wkR σ (nI 7) f R) (
oF (Q6 true 10 a.2 0) fun d =>
oF (Q6 true 12 b.2 0) fun e =>
oF (Xt c (nI 3)) fun g =>
Q0 W 133 [d,e,g] f (fun d e =>
oF (vUn .not d) fun d =>
gF d false (fun f =>
oF (Q6 true 10 a.2 0) fun g =>
oF (Q6 true 12 b.2 0) fun h =>
oF (Xt c (nI 4)) fun i =>
Q0 W 134 [g,a1,h,i,a3,a4] e (fun j k =>
oF (vUn .not j) fun l =>
f (Q9 [(56,(.v g)),(57,(.v a1)),(58,(.v h)),(59,(.v c)),(60,(.v i)),(61,(.v a3)),(62,(.v a4)),(63,(.v j)),(64,(.v l))]) k) (pNR R)) e (fun e f =>
oF (Qc d (.bool true) (e 64).pv) fun d =>
Q3 d (
wkR σ (nI 11) f R) (
X6 σ (fun d =>
oF (Xt c (nI 4)) fun e =>
bF .eql e (.int .u8 99) fun e =>
Q3 e (
pF a.2 5 fun e =>
pF b.2 11 fun g =>
oF (Q5 1 e g) fun e =>
oF (Q4 false 1 e f) fun e =>
X6 σ (fun g =>
QC [(1,a1),(11,c),(12,e),(13,nI 0),(5,a.2),(7,b.2)] fun e =>
Lfp σ (fun h i j =>
oF (Qj .sl (i 12) j) fun k =>
bF .lss (i 13) k fun k =>
Q3 k (
oF (Q6 true 10 (i 5) 0) fun k =>
oF (Q5 1 (i 12) (i 13)) fun l =>
oF (Q4 false 1 l j) fun l =>
Q0 W 135 [k,(i 1),l] j (fun k l =>
oF (vUn .not k) fun k =>
Q3 k (
wkR σ (nI 11) l R) (
bF .add (i 13) (nI 1) fun k =>
kF [(1,i 1),(11,i 11),(12,i 12),(13,k),(5,i 5),(7,i 7)] h l)) (pNR R)) (
kF [(11,i 11),(12,i 12),(5,i 5),(7,i 7)] g j)) e f) (fun e g =>
oF (Qj .sl (e 12) g) fun h =>
bF .eql h (nI 0) fun h =>
Q3 h (
wkR σ (nI 11) g R) (
kF [(11,e 11),(5,e 5),(7,e 7)] d g))) (
kF [(11,c),(5,a.2),(7,b.2)] d f)) (fun a b =>
X6 σ (fun c =>
oF (Xt (a 11) (nI 4)) fun d =>
bF .eql d (.int .u8 112) fun d =>
Q3 d (
pF (a 5) 6 fun d =>
pF (a 7) 11 fun a =>
oF (Q5 1 d a) fun a =>
oF (Q4 false 1 a b) fun a =>
QC [(14,a),(15,nI 0)] fun a =>
Lfp σ (fun d e f =>
oF (Qj .sl (e 14) f) fun g =>
bF .lss (e 15) g fun g =>
Q3 g (
oF (Q5 1 (e 14) (e 15)) fun g =>
oF (Q4 false 1 g f) fun g =>
bF .lss g (nI (-1)) fun g =>
gF g false (fun h =>
oF (Q5 1 (e 14) (e 15)) fun i =>
oF (Q4 false 1 i f) fun j =>
bF .geq j (nI 64) fun k =>
h (Q9 [(113,(.v (e 14))),(114,(.v (e 15))),(115,(.v i)),(116,(.v j)),(117,(.v k))]) f) f (fun h i =>
oF (Qc g (.bool true) (h 117).pv) fun g =>
Q3 g (
wkR σ (nI 11) i R) (
bF .add (e 15) (nI 1) fun g =>
kF [(14,e 14),(15,g)] d i))) (
kF [] c f)) a b) (
kF [] c b)) (fun a a =>
wkR σ (nI 0) a R))))) (pNR R))))) (pNR R))) (pNR R)
theorem DI (W : Q8) (a0 a1 a2 a3 a4 : PV) (σ : St) (R : Res → St → Prop) : Qn (Qq W) Tryz.prog QO 70 [a0,a1,a2,a3,a4] σ R = Aj Tryz.prog W a0 a1 a2 a3 a4 σ R := by kernel_rfl
def wR (Pr : Program) (W : Q8) (a0 a1 : PV) (σ : St) (R : Res → St → Prop) : Prop :=
oF (opC.vBoxAny a0) fun a =>
oF (opC.vBoxAny a1) fun b =>
if 0 < b.1 then Pf b.1 b.2 σ fun b c =>
pF a.2 3 fun a =>
Q0 W 136 [a,(.func 137 0 [b])] c (fun a b =>
wkR σ a b R) (pNR R) else False
theorem DG (W : Q8) (a0 a1 : PV) (σ : St) (R : Res → St → Prop) : Qn (Qq W) Tryz.prog QO 72 [a0,a1] σ R = wR Tryz.prog W a0 a1 σ R := by kernel_rfl
def Bo (Pr : Program) (W : Q8) (a0 a1 : PV) (σ : St) (R : Res → St → Prop) : Prop :=
oF (opC.vBoxAny a0) fun a =>
pF a.2 3 fun b =>
oF (Q5 9 b a1) fun b =>
oF (Q4 true 9 b σ) fun b =>
oF (Qv 9 (.agg [(nI 0),(nI 0),(nI 0),(nI 0),(nI 0),(nI 0),(nI 0),(nI 0),nL]) 0 b) fun b =>
X6 σ (fun c =>
bF .gtr a1 (nI 0) fun d =>
Q3 d (
pF a.2 3 fun d =>
bF .sub a1 (nI 1) fun e =>
oF (Q5 9 d e) fun d =>
oF (Qh 3 d) fun d =>
oF (Q4 false 1 d σ) fun d =>
kF [(1,a1),(6,d),(2,a.2),(5,b)] c σ) (
kF [(1,a1),(6,nI 0),(2,a.2),(5,b)] c σ)) (fun a b =>
pF (a 5) 0 fun c =>
pF (a 2) 2 fun d =>
oF (Qj .sl d b) fun d =>
Q0 W 42 [c,d] b (fun b c =>
oF (vUn .not b) fun b =>
gF b false (fun d =>
pF (a 5) 1 fun e =>
pF (a 2) 0 fun f =>
oF (Qj .sl f c) fun g =>
Q0 W 42 [e,g] c (fun h i =>
oF (vUn .not h) fun j =>
d (Q9 [(42,(.loc 5 1)),(43,(.v e)),(44,(.loc 2 0)),(45,(.loc 2 0)),(46,(.v f)),(47,(.v g)),(48,(.v h)),(49,(.v j))]) i) (pNR R)) c (fun c d =>
oF (Qc b (.bool true) (c 49).pv) fun b =>
gF b false (fun c =>
bF .eql (a 1) (nI 0) fun e =>
c (Q9 [(52,(.v (a 1))),(53,(.v e)),(54,(.v e))]) d) d (fun c d =>
gF (c 54).pv true (fun e =>
pF (a 5) 4 fun f =>
bF .neq f (nI (-1)) fun g =>
e (Q9 [(55,(.loc 5 4)),(56,(.v f)),(57,(.v g))]) d) d (fun d e =>
gF b false (fun f =>
oF (Qc (c 54).pv (d 57).pv (.bool false)) fun c =>
f (Q9 [(58,(.v c))]) e) e (fun c d =>
oF (Qc b (.bool true) (c 58).pv) fun b =>
gF b false (fun c =>
bF .gtr (a 1) (nI 0) fun e =>
c (Q9 [(61,(.v (a 1))),(62,(.v e)),(63,(.v e))]) d) d (fun c d =>
gF (c 63).pv true (fun e =>
pF (a 5) 4 fun f =>
Q0 W 42 [f,(a 1)] d (fun g h =>
oF (vUn .not g) fun i =>
e (Q9 [(64,(.loc 5 4)),(65,(.v f)),(66,(.v (a 1))),(67,(.v g)),(68,(.v i))]) h) (pNR R)) d (fun d e =>
gF b false (fun f =>
oF (Qc (c 63).pv (d 68).pv (.bool false)) fun c =>
f (Q9 [(69,(.v c))]) e) e (fun c d =>
oF (Qc b (.bool true) (c 69).pv) fun b =>
Q3 b (
wkR σ (nI 11) d R) (
pF (a 5) 8 fun b =>
oF (Qj .sl b d) fun b =>
bF .eql b (nI 0) fun b =>
Q3 b (
wkR σ (nI 12) d R) (
pF (a 5) 2 fun b =>
bF .neq b (a 6) fun b =>
gF b false (fun c =>
pF (a 5) 3 fun e =>
pF (a 5) 2 fun f =>
bF .leq e f fun g =>
c (Q9 [(82,(.loc 5 3)),(83,(.v e)),(84,(.loc 5 2)),(85,(.v f)),(86,(.v g))]) d) d (fun c d =>
oF (Qc b (.bool true) (c 86).pv) fun b =>
gF b false (fun c =>
pF (a 2) 3 fun e =>
oF (Qj .sl e d) fun f =>
bF .sub f (nI 1) fun g =>
bF .eql (a 1) g fun h =>
c (Q9 [(89,(.v (a 1))),(90,(.loc 2 0)),(91,(.loc 2 3)),(92,(.v e)),(93,(.v f)),(94,(.v g)),(95,(.v h)),(96,(.v h))]) d) d (fun c d =>
gF (c 96).pv true (fun e =>
pF (a 5) 3 fun f =>
pF (a 2) 4 fun g =>
oF (Qj .sl g d) fun h =>
bF .neq f h fun i =>
e (Q9 [(97,(.loc 5 3)),(98,(.v f)),(99,(.loc 2 0)),(100,(.loc 2 4)),(101,(.v g)),(102,(.v h)),(103,(.v i))]) d) d (fun d e =>
gF b false (fun f =>
oF (Qc (c 96).pv (d 103).pv (.bool false)) fun c =>
f (Q9 [(104,(.v c))]) e) e (fun c d =>
oF (Qc b (.bool true) (c 104).pv) fun b =>
Q3 b (
wkR σ (nI 10) d R) (
pF (a 2) 2 fun b =>
pF (a 5) 0 fun c =>
oF (Q5 2 b c) fun b =>
oF (Q4 true 2 b d) fun b =>
oF (Qv 2 (.agg [(nI 0),(nI 0)]) 0 b) fun b =>
pF (a 2) 0 fun c =>
pF b 1 fun e =>
oF (Q5 1 c e) fun c =>
oF (Qh 0 c) fun c =>
oF (Q4 false 1 c d) fun c =>
pF (a 2) 0 fun e =>
pF b 0 fun b =>
oF (Q5 1 e b) fun b =>
oF (Qh 0 b) fun b =>
oF (Q4 false 1 b d) fun b =>
pF (a 2) 0 fun e =>
pF (a 5) 1 fun f =>
oF (Q5 1 e f) fun e =>
oF (Qh 0 e) fun e =>
oF (Q4 false 1 e d) fun e =>
oF (QI 1 (List.replicate 2 nL) [(0,c),(1,b)]) fun b =>
Q0 W 225 [(.list .full b)] d (fun b d =>
bF .eql (a 1) (nI 0) fun f =>
gF f true (fun g =>
oF (Qj .sl b d) fun h =>
bF .gtr h (nI 0) fun i =>
g (Q9 [(144,(.v b)),(145,(.v h)),(146,(.v i))]) d) d (fun d g =>
oF (Qc f (d 146).pv (.bool false)) fun d =>
gF d false (fun f =>
oF (Qj .sl e g) fun h =>
oF (Qj .sl b g) fun i =>
bF .lss h i fun j =>
f (Q9 [(149,(.v e)),(150,(.v h)),(151,(.v b)),(152,(.v i)),(153,(.v j))]) g) g (fun f g =>
oF (Qc d (.bool true) (f 153).pv) fun d =>
gF d false (fun f =>
oF (Qj .sl b g) fun h =>
oF (XN 5 e none (some h)) fun i =>
Q0 W 226 [i,b] g (fun j k =>
oF (vUn .not j) fun l =>
f (Q9 [(156,(.v e)),(157,(.v b)),(158,(.v h)),(159,(.v i)),(160,(.v b)),(161,(.v j)),(162,(.v l))]) k) (pNR R)) g (fun b f =>
oF (Qc d (.bool true) (b 162).pv) fun b =>
Q3 b (
wkR σ (nI 14) f R) (
X6 σ (fun b =>
pF (a 5) 8 fun d =>
oF (Qj .sl d f) fun g =>
QC [(1,a 1),(8,c),(10,e),(165,d),(166,g),(167,nI 0),(2,a 2),(5,a 5)] fun a =>
Lfp σ (fun c d e =>
bF .lss (d 167) (d 166) fun g =>
Q3 g (
oF (Q5 3 (d 165) (d 167)) fun g =>
oF (Q4 true 3 g e) fun g =>
oF (Qv 3 (.agg [(nI 0),(nI 0),(nI 0)]) 0 g) fun g =>
bF .eql (d 167) (nI 0) fun h =>
gF h true (fun i =>
pF g 0 fun j =>
bF .neq j (nI (-1)) fun k =>
i (Q9 [(176,(.loc 13 0)),(177,(.v j)),(178,(.v k))]) e) e (fun i j =>
oF (Qc h (i 178).pv (.bool false)) fun h =>
gF h false (fun i =>
bF .gtr (d 167) (nI 0) fun k =>
i (Q9 [(181,(.v (d 167))),(182,(.v k)),(183,(.v k))]) j) j (fun i j =>
gF (i 183).pv true (fun k =>
pF g 0 fun l =>
Q0 W 42 [l,(d 167)] j (fun m n =>
oF (vUn .not m) fun o =>
k (Q9 [(184,(.loc 13 0)),(185,(.v l)),(186,(.v (d 167))),(187,(.v m)),(188,(.v o))]) n) (pNR R)) j (fun j k =>
gF h false (fun l =>
oF (Qc (i 183).pv (j 188).pv (.bool false)) fun i =>
l (Q9 [(189,(.v i))]) k) k (fun i j =>
oF (Qc h (.bool true) (i 189).pv) fun h =>
Q3 h (
wkR σ (nI 10) j R) (
pF g 1 fun h =>
oF (Qj .sl (d 8) j) fun i =>
bF .lss h i fun h =>
gF h false (fun i =>
pF g 1 fun k =>
pF g 2 fun l =>
bF .gtr k l fun m =>
i (Q9 [(198,(.loc 13 1)),(199,(.v k)),(200,(.loc 13 2)),(201,(.v l)),(202,(.v m))]) j) j (fun i j =>
oF (Qc h (.bool true) (i 202).pv) fun h =>
gF h false (fun i =>
pF g 2 fun g =>
oF (Qj .sl (d 10) j) fun k =>
bF .gtr g k fun l =>
i (Q9 [(205,(.loc 13 2)),(206,(.v g)),(207,(.v (d 10))),(208,(.v k)),(209,(.v l))]) j) j (fun g i =>
oF (Qc h (.bool true) (g 209).pv) fun g =>
Q3 g (
wkR σ (nI 11) i R) (
bF .add (d 167) (nI 1) fun g =>
kF [(1,d 1),(8,d 8),(10,d 10),(165,d 165),(166,d 166),(167,g),(2,d 2),(5,d 5)] c i))))))))) (
kF [(1,d 1),(2,d 2),(5,d 5)] b e)) a f) (fun a b =>
bF .eql (a 1) (nI 0) fun c =>
gF c true (fun d =>
pF (a 5) 5 fun e =>
bF .neq e (nI (-1)) fun f =>
d (Q9 [(215,(.loc 5 5)),(216,(.v e)),(217,(.v f))]) b) b (fun b d =>
oF (Qc c (b 217).pv (.bool false)) fun b =>
gF b false (fun c =>
bF .gtr (a 1) (nI 0) fun e =>
c (Q9 [(220,(.v (a 1))),(221,(.v e)),(222,(.v e))]) d) d (fun c d =>
gF (c 222).pv true (fun e =>
pF (a 5) 5 fun f =>
pF (a 2) 3 fun g =>
pF (a 5) 4 fun h =>
oF (Q5 9 g h) fun i =>
oF (Qh 8 i) fun j =>
oF (Q4 false 1 j d) fun k =>
oF (Qj .sl k d) fun l =>
Q0 W 42 [f,l] d (fun m n =>
oF (vUn .not m) fun o =>
e (Q9 [(223,(.loc 5 5)),(224,(.v f)),(225,(.loc 2 0)),(226,(.loc 2 3)),(227,(.v g)),(228,(.loc 5 4)),(229,(.v h)),(230,(.v i)),(231,(.v j)),(232,(.v k)),(233,(.v l)),(234,(.v m)),(235,(.v o))]) n) (pNR R)) d (fun d e =>
gF b false (fun f =>
oF (Qc (c 222).pv (d 235).pv (.bool false)) fun c =>
f (Q9 [(236,(.v c))]) e) e (fun c d =>
oF (Qc b (.bool true) (c 236).pv) fun b =>
gF b false (fun c =>
pF (a 5) 6 fun e =>
bF .lss e (nI 0) fun f =>
c (Q9 [(239,(.loc 5 6)),(240,(.v e)),(241,(.v f))]) d) d (fun c d =>
oF (Qc b (.bool true) (c 241).pv) fun b =>
gF b false (fun c =>
pF (a 5) 6 fun e =>
bF .eql e (nI 0) fun f =>
c (Q9 [(244,(.loc 5 6)),(245,(.v e)),(246,(.v f)),(247,(.v f))]) d) d (fun c d =>
gF (c 247).pv true (fun e =>
pF (a 5) 7 fun f =>
bF .neq f (nI 0) fun g =>
e (Q9 [(248,(.loc 5 7)),(249,(.v f)),(250,(.v g))]) d) d (fun d e =>
gF b false (fun f =>
oF (Qc (c 247).pv (d 250).pv (.bool false)) fun c =>
f (Q9 [(251,(.v c))]) e) e (fun c d =>
oF (Qc b (.bool true) (c 251).pv) fun b =>
Q3 b (
wkR σ (nI 11) d R) (
X6 σ (fun b =>
pF (a 5) 6 fun c =>
bF .gtr c (nI 0) fun c =>
Q3 c (
oF (Q6 true 12 (a 2) 0) fun c =>
pF (a 5) 6 fun e =>
Q0 W 227 [c,(a 1),e] d (fun c e =>
oF (X0 c 0) fun f =>
oF (X0 c 1) fun c =>
oF (vUn .not c) fun c =>
gF c false (fun g =>
pF (a 5) 7 fun h =>
pF (a 2) 3 fun a =>
oF (Q5 9 a f) fun i =>
oF (Qh 8 i) fun j =>
oF (Q4 false 1 j e) fun k =>
oF (Qj .sl k e) fun l =>
Q0 W 42 [h,l] e (fun m n =>
oF (vUn .not m) fun o =>
g (Q9 [(267,(.loc 5 7)),(268,(.v h)),(269,(.loc 2 0)),(270,(.loc 2 3)),(271,(.v a)),(272,(.v f)),(273,(.v i)),(274,(.v j)),(275,(.v k)),(276,(.v l)),(277,(.v m)),(278,(.v o))]) n) (pNR R)) e (fun a e =>
oF (Qc c (.bool true) (a 278).pv) fun a =>
Q3 a (
wkR σ (nI 11) e R) (
kF [] b e))) (pNR R)) (
kF [] b d)) (fun a a =>
wkR σ (nI 0) a R)))))))))))))))) (pNR R)))))))))))))))) (pNR R))
theorem Ex (W : Q8) (a0 a1 : PV) (σ : St) (R : Res → St → Prop) : Qn (Qq W) Tryz.prog QO 116 [a0,a1] σ R = Bo Tryz.prog W a0 a1 σ R := by kernel_rfl
def B6 (Pr : Program) (W : Q8) (a0 a1 a2 a3 : PV) (σ : St) (R : Res → St → Prop) : Prop :=
oF (opC.vBoxAny a0) fun a =>
oF (opC.vBoxAny a1) fun b =>
pF b.2 0 fun c =>
bF .eql c (nI 0) fun d =>
Q3 d (
bF .eql a2 (.int .u8 45) fun d =>
gF d false (fun e =>
bF .eql a2 (.int .u8 111) fun f =>
e (Q9 [(20,(.v a2)),(21,(.v f))]) σ) σ (fun e f =>
oF (Qc d (.bool true) (e 21).pv) fun d =>
gF d true (fun e =>
pF b.2 1 fun g =>
bF .eql g (nI 0) fun h =>
e (Q9 [(24,(.loc 5 1)),(25,(.v g)),(26,(.v h))]) f) f (fun e f =>
oF (Qc d (e 26).pv (.bool false)) fun d =>
gF d true (fun e =>
pF b.2 2 fun g =>
bF .eql g (nI 0) fun h =>
e (Q9 [(29,(.loc 5 2)),(30,(.v g)),(31,(.v h))]) f) f (fun e f =>
oF (Qc d (e 31).pv (.bool false)) fun d =>
wkR σ d f R)))) (
bF .eql c (nI 1) fun d =>
Q3 d (
oF (Q6 true 12 a.2 0) fun d =>
pF b.2 2 fun e =>
Q0 W 228 [d,a3,e] σ (fun d e =>
oF (X0 d 0) fun f =>
oF (X0 d 1) fun d =>
bF .eql a2 (.int .u8 115) fun g =>
gF g false (fun h =>
bF .eql a2 (.int .u8 111) fun i =>
h (Q9 [(46,(.v a2)),(47,(.v i))]) e) e (fun e h =>
oF (Qc g (.bool true) (e 47).pv) fun e =>
gF e true (fun g =>
g (Q9 [(50,(.v d))]) h) h (fun d g =>
oF (Qc e (d 50).pv (.bool false)) fun d =>
gF d true (fun e =>
pF b.2 1 fun h =>
pF a.2 0 fun i =>
pF a.2 3 fun j =>
oF (Q5 9 j f) fun k =>
oF (Qh 1 k) fun l =>
oF (Q4 false 1 l g) fun m =>
oF (Q5 1 i m) fun n =>
oF (Qh 0 n) fun o =>
oF (Q4 false 1 o g) fun p =>
oF (Qj .sl p g) fun q =>
Q0 W 42 [h,q] g (fun r s =>
e (Q9 [(53,(.loc 5 1)),(54,(.v h)),(55,(.loc 4 0)),(56,(.loc 4 0)),(57,(.v i)),(58,(.loc 4 0)),(59,(.loc 4 3)),(60,(.v j)),(61,(.v f)),(62,(.v k)),(63,(.v l)),(64,(.v m)),(65,(.v n)),(66,(.v o)),(67,(.v p)),(68,(.v q)),(69,(.v r))]) s) (pNR R)) g (fun e f =>
oF (Qc d (e 69).pv (.bool false)) fun d =>
wkR σ d f R)))) (pNR R)) (
bF .eql c (nI 2) fun c =>
Q3 c (
oF (Q6 true 12 a.2 0) fun c =>
pF b.2 2 fun d =>
Q0 W 228 [c,a3,d] σ (fun c d =>
oF (X0 c 0) fun e =>
oF (X0 c 1) fun c =>
bF .eql a2 (.int .u8 114) fun f =>
gF f true (fun g =>
g (Q9 [(84,(.v c))]) d) d (fun c d =>
oF (Qc f (c 84).pv (.bool false)) fun c =>
gF c true (fun f =>
pF b.2 1 fun b =>
pF a.2 3 fun a =>
oF (Q5 9 a e) fun g =>
oF (Qh 8 g) fun h =>
oF (Q4 false 1 h d) fun i =>
oF (Qj .sl i d) fun j =>
Q0 W 42 [b,j] d (fun k l =>
f (Q9 [(87,(.loc 5 1)),(88,(.v b)),(89,(.loc 4 0)),(90,(.loc 4 3)),(91,(.v a)),(92,(.v e)),(93,(.v g)),(94,(.v h)),(95,(.v i)),(96,(.v j)),(97,(.v k))]) l) (pNR R)) d (fun a b =>
oF (Qc c (a 97).pv (.bool false)) fun a =>
wkR σ a b R))) (pNR R)) (
wkR σ (.bool false) σ R)))
theorem EI (W : Q8) (a0 a1 a2 a3 : PV) (σ : St) (R : Res → St → Prop) : Qn (Qq W) Tryz.prog QO 118 [a0,a1,a2,a3] σ R = B6 Tryz.prog W a0 a1 a2 a3 σ R := by kernel_rfl
def CC (Pr : Program) (W : Q8) (a0 a1 a2 a3 : PV) (σ : St) (R : Res → St → Prop) : Prop :=
oF (opC.vBoxAny a0) fun a =>
oF (opC.vBoxAny a1) fun b =>
X6 σ (fun c =>
bF .eql a2 (.int .u8 110) fun d =>
Q3 d (
wkR σ (.bool true) σ R) (
bF .eql a2 (.int .u8 104) fun d =>
Q3 d (
pF b.2 10 fun d =>
bF .eql d (nI 0) fun d =>
gF d false (fun e =>
pF b.2 10 fun f =>
bF .eql f (nI 1) fun g =>
e (Q9 [(18,(.loc 5 10)),(19,(.v f)),(20,(.v g))]) σ) σ (fun e f =>
oF (Qc d (.bool true) (e 20).pv) fun d =>
wkR σ d f R)) (
bF .eql a2 (.int .u8 98) fun d =>
Q3 d (
pF b.2 10 fun d =>
bF .geq d (nI 0) fun d =>
gF d true (fun e =>
pF b.2 10 fun f =>
bF .leq f (nI 7) fun g =>
e (Q9 [(28,(.loc 5 10)),(29,(.v f)),(30,(.v g))]) σ) σ (fun e f =>
oF (Qc d (e 30).pv (.bool false)) fun d =>
wkR σ d f R)) (
bF .eql a2 (.int .u8 77) fun d =>
Q3 d (
pF b.2 1 fun d =>
bF .neq d (nI 0) fun d =>
Q3 d (
pF b.2 10 fun d =>
bF .geq d (nI 0) fun d =>
gF d true (fun e =>
pF b.2 10 fun f =>
pF a.2 0 fun a =>
oF (Qj .sl a σ) fun g =>
bF .lss f g fun h =>
e (Q9 [(42,(.loc 5 10)),(43,(.v f)),(44,(.loc 4 0)),(45,(.loc 4 0)),(46,(.v a)),(47,(.v g)),(48,(.v h))]) σ) σ (fun a e =>
oF (Qc d (a 48).pv (.bool false)) fun a =>
wkR σ a e R)) (
kF [(5,b.2)] c σ)) (
kF [(5,b.2)] c σ))))) (fun a b =>
pF (a 5) 10 fun a =>
bF .eql a (nI 0) fun a =>
wkR σ a b R)
theorem EM (W : Q8) (a0 a1 a2 a3 : PV) (σ : St) (R : Res → St → Prop) : Qn (Qq W) Tryz.prog QO 119 [a0,a1,a2,a3] σ R = CC Tryz.prog W a0 a1 a2 a3 σ R := by kernel_rfl
def CH (Pr : Program) (W : Q8) (a0 a1 a2 a3 : PV) (σ : St) (R : Res → St → Prop) : Prop :=
oF (opC.vBoxAny a0) fun a =>
oF (opC.vBoxAny a1) fun b =>
pF b.2 11 fun c =>
X6 σ (fun d =>
bF .eql a2 (.int .u8 101) fun e =>
Q3 e (
bF .geq c (nI (-1000)) fun e =>
gF e true (fun f =>
bF .leq c (nI 1000) fun g =>
f (Q9 [(21,(.v c)),(22,(.v g))]) σ) σ (fun f g =>
oF (Qc e (f 22).pv (.bool false)) fun e =>
wkR σ e g R)) (
bF .eql a2 (.int .u8 104) fun e =>
Q3 e (
kF [(9,c),(10,nI 2)] d σ) (
bF .eql a2 (.int .u8 100) fun e =>
Q3 e (
kF [(9,c),(10,nI 3)] d σ) (
bF .eql a2 (.int .u8 68) fun e =>
Q3 e (
bF .geq c (nI 1) fun e =>
gF e true (fun f =>
bF .leq c (nI 3) fun g =>
f (Q9 [(33,(.v c)),(34,(.v g))]) σ) σ (fun f g =>
oF (Qc e (f 34).pv (.bool false)) fun e =>
wkR σ e g R)) (
bF .eql a2 (.int .u8 117) fun e =>
Q3 e (
kF [(9,c),(10,nI 64)] d σ) (
bF .eql a2 (.int .u8 111) fun e =>
Q3 e (
Q3 e (
kF [(9,c),(10,nI 1000)] d σ) (
bF .eql a2 (.int .u8 109) fun e =>
Q3 e (
pF a.2 0 fun e =>
oF (Qj .sl e σ) fun e =>
kF [(9,c),(10,e)] d σ) (
bF .eql a2 (.int .u8 116) fun e =>
Q3 e (
pF a.2 7 fun e =>
oF (Qj .sl e σ) fun e =>
kF [(9,c),(10,e)] d σ) (
bF .eql a2 (.int .u8 99) fun e =>
Q3 e (
pF a.2 5 fun e =>
oF (Qj .sl e σ) fun e =>
kF [(9,c),(10,e)] d σ) (
bF .eql a2 (.int .u8 112) fun e =>
Q3 e (
pF a.2 6 fun e =>
oF (Qj .sl e σ) fun e =>
kF [(9,c),(10,e)] d σ) (
bF .eql a2 (.int .u8 120) fun e =>
Q3 e (
pF a.2 8 fun e =>
oF (Qj .sl e σ) fun e =>
kF [(9,c),(10,e)] d σ) (
bF .eql a2 (.int .u8 102) fun e =>
Q3 e (
bF .gtr c (nI 0) fun e =>
gF e true (fun f =>
pF a.2 3 fun g =>
oF (Qj .sl g σ) fun h =>
bF .lss c h fun i =>
f (Q9 [(76,(.v c)),(77,(.loc 4 0)),(78,(.loc 4 3)),(79,(.v g)),(80,(.v h)),(81,(.v i))]) σ) σ (fun f g =>
oF (Qc e (f 81).pv (.bool false)) fun e =>
gF e true (fun f =>
pF a.2 3 fun h =>
oF (Q5 9 h c) fun i =>
oF (Qh 4 i) fun j =>
oF (Q4 false 1 j g) fun k =>
bF .eql k a3 fun l =>
f (Q9 [(84,(.loc 4 0)),(85,(.loc 4 3)),(86,(.v h)),(87,(.v c)),(88,(.v i)),(89,(.v j)),(90,(.v k)),(91,(.v a3)),(92,(.v l))]) g) g (fun f g =>
oF (Qc e (f 92).pv (.bool false)) fun e =>
wkR σ e g R))) (
bF .eql a2 (.int .u8 103) fun e =>
Q3 e (
bF .gtr c (nI 0) fun e =>
gF e true (fun f =>
pF a.2 3 fun g =>
oF (Q5 9 g a3) fun h =>
oF (Qh 8 h) fun i =>
oF (Q4 false 1 i σ) fun j =>
oF (Qj .sl j σ) fun k =>
bF .lss c k fun l =>
f (Q9 [(99,(.v c)),(100,(.loc 4 0)),(101,(.loc 4 3)),(102,(.v g)),(103,(.v a3)),(104,(.v h)),(105,(.v i)),(106,(.v j)),(107,(.v k)),(108,(.v l))]) σ) σ (fun f g =>
oF (Qc e (f 108).pv (.bool false)) fun e =>
wkR σ e g R)) (
bF .eql a2 (.int .u8 106) fun e =>
Q3 e (
pF a.2 3 fun e =>
oF (Q5 9 e a3) fun e =>
oF (Qh 2 e) fun e =>
oF (Q4 false 1 e σ) fun e =>
bF .leq e c fun e =>
gF e true (fun f =>
pF a.2 3 fun g =>
oF (Q5 9 g a3) fun h =>
oF (Qh 3 h) fun i =>
oF (Q4 false 1 i σ) fun j =>
bF .lss c j fun k =>
f (Q9 [(122,(.v c)),(123,(.loc 4 0)),(124,(.loc 4 3)),(125,(.v g)),(126,(.v a3)),(127,(.v h)),(128,(.v i)),(129,(.v j)),(130,(.v k))]) σ) σ (fun f g =>
oF (Qc e (f 130).pv (.bool false)) fun e =>
wkR σ e g R)) (
bF .eql a2 (.int .u8 74) fun e =>
Q3 e (
oF (Q6 true 12 a.2 0) fun e =>
pF b.2 3 fun f =>
Q0 W 227 [e,a3,f] σ (fun e f =>
oF (X0 e 0) fun g =>
oF (X0 e 1) fun e =>
pF a.2 3 fun e =>
oF (Q5 9 e g) fun e =>
oF (Qh 2 e) fun e =>
oF (Q4 false 1 e f) fun e =>
bF .leq e c fun e =>
gF e true (fun h =>
pF a.2 3 fun i =>
oF (Q5 9 i g) fun j =>
oF (Qh 3 j) fun k =>
oF (Q4 false 1 k f) fun l =>
bF .lss c l fun m =>
h (Q9 [(153,(.v c)),(154,(.loc 4 0)),(155,(.loc 4 3)),(156,(.v i)),(157,(.v g)),(158,(.v j)),(159,(.v k)),(160,(.v l)),(161,(.v m))]) f) f (fun f g =>
oF (Qc e (f 161).pv (.bool false)) fun e =>
wkR σ e g R)) (pNR R)) (
bF .eql a2 (.int .u8 113) fun e =>
Q3 e (
pF a.2 10 fun e =>
kF [(9,c),(10,e)] d σ) (
bF .eql a2 (.int .u8 105) fun e =>
Q3 e (
pF a.2 11 fun e =>
kF [(9,c),(10,e)] d σ) (
kF [(9,c),(10,nI 1)] d σ))))))))))))) (
bF .eql a2 (.int .u8 107) fun e =>
Q3 e (
kF [(9,c),(10,nI 1000)] d σ) (
bF .eql a2 (.int .u8 109) fun e =>
Q3 e (
pF a.2 0 fun e =>
oF (Qj .sl e σ) fun e =>
kF [(9,c),(10,e)] d σ) (
bF .eql a2 (.int .u8 116) fun e =>
Q3 e (
pF a.2 7 fun e =>
oF (Qj .sl e σ) fun e =>
kF [(9,c),(10,e)] d σ) (
bF .eql a2 (.int .u8 99) fun e =>
Q3 e (
pF a.2 5 fun e =>
oF (Qj .sl e σ) fun e =>
kF [(9,c),(10,e)] d σ) (
bF .eql a2 (.int .u8 112) fun e =>
Q3 e (
pF a.2 6 fun e =>
oF (Qj .sl e σ) fun e =>
kF [(9,c),(10,e)] d σ) (
bF .eql a2 (.int .u8 120) fun e =>
Q3 e (
pF a.2 8 fun e =>
oF (Qj .sl e σ) fun e =>
kF [(9,c),(10,e)] d σ) (
bF .eql a2 (.int .u8 102) fun e =>
Q3 e (
bF .gtr c (nI 0) fun e =>
gF e true (fun f =>
pF a.2 3 fun g =>
oF (Qj .sl g σ) fun h =>
bF .lss c h fun i =>
f (Q9 [(76,(.v c)),(77,(.loc 4 0)),(78,(.loc 4 3)),(79,(.v g)),(80,(.v h)),(81,(.v i))]) σ) σ (fun f g =>
oF (Qc e (f 81).pv (.bool false)) fun e =>
gF e true (fun f =>
pF a.2 3 fun h =>
oF (Q5 9 h c) fun i =>
oF (Qh 4 i) fun j =>
oF (Q4 false 1 j g) fun k =>
bF .eql k a3 fun l =>
f (Q9 [(84,(.loc 4 0)),(85,(.loc 4 3)),(86,(.v h)),(87,(.v c)),(88,(.v i)),(89,(.v j)),(90,(.v k)),(91,(.v a3)),(92,(.v l))]) g) g (fun f g =>
oF (Qc e (f 92).pv (.bool false)) fun e =>
wkR σ e g R))) (
bF .eql a2 (.int .u8 103) fun e =>
Q3 e (
bF .gtr c (nI 0) fun e =>
gF e true (fun f =>
pF a.2 3 fun g =>
oF (Q5 9 g a3) fun h =>
oF (Qh 8 h) fun i =>
oF (Q4 false 1 i σ) fun j =>
oF (Qj .sl j σ) fun k =>
bF .lss c k fun l =>
f (Q9 [(99,(.v c)),(100,(.loc 4 0)),(101,(.loc 4 3)),(102,(.v g)),(103,(.v a3)),(104,(.v h)),(105,(.v i)),(106,(.v j)),(107,(.v k)),(108,(.v l))]) σ) σ (fun f g =>
oF (Qc e (f 108).pv (.bool false)) fun e =>
wkR σ e g R)) (
bF .eql a2 (.int .u8 106) fun e =>
Q3 e (
pF a.2 3 fun e =>
oF (Q5 9 e a3) fun e =>
oF (Qh 2 e) fun e =>
oF (Q4 false 1 e σ) fun e =>
bF .leq e c fun e =>
gF e true (fun f =>
pF a.2 3 fun g =>
oF (Q5 9 g a3) fun h =>
oF (Qh 3 h) fun i =>
oF (Q4 false 1 i σ) fun j =>
bF .lss c j fun k =>
f (Q9 [(122,(.v c)),(123,(.loc 4 0)),(124,(.loc 4 3)),(125,(.v g)),(126,(.v a3)),(127,(.v h)),(128,(.v i)),(129,(.v j)),(130,(.v k))]) σ) σ (fun f g =>
oF (Qc e (f 130).pv (.bool false)) fun e =>
wkR σ e g R)) (
bF .eql a2 (.int .u8 74) fun e =>
Q3 e (
oF (Q6 true 12 a.2 0) fun e =>
pF b.2 3 fun b =>
Q0 W 227 [e,a3,b] σ (fun b e =>
oF (X0 b 0) fun f =>
oF (X0 b 1) fun b =>
pF a.2 3 fun b =>
oF (Q5 9 b f) fun b =>
oF (Qh 2 b) fun b =>
oF (Q4 false 1 b e) fun b =>
bF .leq b c fun b =>
gF b true (fun g =>
pF a.2 3 fun h =>
oF (Q5 9 h f) fun i =>
oF (Qh 3 i) fun j =>
oF (Q4 false 1 j e) fun k =>
bF .lss c k fun l =>
g (Q9 [(153,(.v c)),(154,(.loc 4 0)),(155,(.loc 4 3)),(156,(.v h)),(157,(.v f)),(158,(.v i)),(159,(.v j)),(160,(.v k)),(161,(.v l))]) e) e (fun e f =>
oF (Qc b (e 161).pv (.bool false)) fun b =>
wkR σ b f R)) (pNR R)) (
bF .eql a2 (.int .u8 113) fun b =>
Q3 b (
pF a.2 10 fun b =>
kF [(9,c),(10,b)] d σ) (
bF .eql a2 (.int .u8 105) fun b =>
Q3 b (
pF a.2 11 fun a =>
kF [(9,c),(10,a)] d σ) (
kF [(9,c),(10,nI 1)] d σ))))))))))))))))))) (fun a b =>
Q0 W 42 [(a 9),(a 10)] b (fun a b =>
wkR σ a b R) (pNR R))
theorem Ey (W : Q8) (a0 a1 a2 a3 : PV) (σ : St) (R : Res → St → Prop) : Qn (Qq W) Tryz.prog QO 120 [a0,a1,a2,a3] σ R = CH Tryz.prog W a0 a1 a2 a3 σ R := by kernel_rfl
def CF (Pr : Program) (W : Q8) (a0 a1 a2 : PV) (σ : St) (R : Res → St → Prop) : Prop :=
oF (opC.vBoxAny a0) fun a =>
oF (opC.vBoxAny a1) fun b =>
X6 σ (fun c =>
pF b.2 0 fun d =>
bF .eql d (nI 11) fun e =>
Q3 e (
Q3 e (
pF a.2 5 fun e =>
pF b.2 11 fun f =>
oF (Q5 1 e f) fun e =>
oF (Q4 false 1 e σ) fun e =>
pF a.2 3 fun f =>
oF (Q5 9 f a2) fun f =>
oF (Q4 true 9 f σ) fun f =>
Pf 9 (.agg [(nI 0),(nI 0),(nI 0),(nI 0),(nI 0),(nI 0),(nI 0),(nI 0),nL]) σ fun g h =>
oF (QQ 9 g f h) fun f =>
oF (Qj .sl e f) fun h =>
bF .eql h (nI 0) fun h =>
gF h false (fun i =>
Q0 W 113 [e,(.func 229 0 [g])] f (fun j k =>
i (Q9 [(32,(.v e)),(33,(.v (.func 229 0 [g]))),(34,(.v j))]) k) (pNR R)) f (fun e f =>
oF (Qc h (.bool true) (e 34).pv) fun e =>
Q3 e (
wkR σ (nI 11) f R) (
kF [] c f))) (
bF .eql d (nI 23) fun e =>
Q3 e (
pF a.2 6 fun e =>
pF b.2 11 fun f =>
oF (Q5 1 e f) fun e =>
oF (Q4 false 1 e σ) fun e =>
Q0 W 113 [e,(.func 230 0 [])] σ (fun e f =>
Q3 e (
wkR σ (nI 11) f R) (
kF [] c f)) (pNR R)) (
kF [] c σ))) (
bF .eql d (nI 12) fun e =>
Q3 e (
Q3 e (
pF a.2 5 fun e =>
pF b.2 11 fun f =>
oF (Q5 1 e f) fun e =>
oF (Q4 false 1 e σ) fun e =>
pF a.2 3 fun f =>
oF (Q5 9 f a2) fun f =>
oF (Q4 true 9 f σ) fun f =>
Pf 9 (.agg [(nI 0),(nI 0),(nI 0),(nI 0),(nI 0),(nI 0),(nI 0),(nI 0),nL]) σ fun g h =>
oF (QQ 9 g f h) fun f =>
oF (Qj .sl e f) fun h =>
bF .eql h (nI 0) fun h =>
gF h false (fun i =>
Q0 W 113 [e,(.func 229 0 [g])] f (fun j k =>
i (Q9 [(32,(.v e)),(33,(.v (.func 229 0 [g]))),(34,(.v j))]) k) (pNR R)) f (fun e f =>
oF (Qc h (.bool true) (e 34).pv) fun e =>
Q3 e (
wkR σ (nI 11) f R) (
kF [] c f))) (
bF .eql d (nI 23) fun e =>
Q3 e (
pF a.2 6 fun e =>
pF b.2 11 fun f =>
oF (Q5 1 e f) fun e =>
oF (Q4 false 1 e σ) fun e =>
Q0 W 113 [e,(.func 230 0 [])] σ (fun e f =>
Q3 e (
wkR σ (nI 11) f R) (
kF [] c f)) (pNR R)) (
kF [] c σ))) (
bF .eql d (nI 19) fun e =>
Q3 e (
pF a.2 5 fun e =>
pF b.2 11 fun f =>
oF (Q5 1 e f) fun e =>
oF (Q4 false 1 e σ) fun e =>
pF a.2 3 fun f =>
oF (Q5 9 f a2) fun f =>
oF (Q4 true 9 f σ) fun f =>
Pf 9 (.agg [(nI 0),(nI 0),(nI 0),(nI 0),(nI 0),(nI 0),(nI 0),(nI 0),nL]) σ fun g h =>
oF (QQ 9 g f h) fun f =>
oF (Qj .sl e f) fun h =>
bF .eql h (nI 0) fun h =>
gF h false (fun i =>
Q0 W 113 [e,(.func 229 0 [g])] f (fun j k =>
i (Q9 [(32,(.v e)),(33,(.v (.func 229 0 [g]))),(34,(.v j))]) k) (pNR R)) f (fun e f =>
oF (Qc h (.bool true) (e 34).pv) fun e =>
Q3 e (
wkR σ (nI 11) f R) (
kF [] c f))) (
bF .eql d (nI 23) fun d =>
Q3 d (
pF a.2 6 fun a =>
pF b.2 11 fun b =>
oF (Q5 1 a b) fun a =>
oF (Q4 false 1 a σ) fun a =>
Q0 W 113 [a,(.func 230 0 [])] σ (fun a b =>
Q3 a (
wkR σ (nI 11) b R) (
kF [] c b)) (pNR R)) (
kF [] c σ))))) (fun a a =>
wkR σ (nI 0) a R)
theorem GX (W : Q8) (a0 a1 a2 : PV) (σ : St) (R : Res → St → Prop) : Qn (Qq W) Tryz.prog QO 121 [a0,a1,a2] σ R = CF Tryz.prog W a0 a1 a2 σ R := by kernel_rfl
def Bq (Pr : Program) (W : Q8) (a0 a1 : PV) (σ : St) (R : Res → St → Prop) : Prop :=
oF (opC.vBoxAny a0) fun a =>
pF a.2 3 fun b =>
oF (Q5 9 b a1) fun b =>
oF (Q4 true 9 b σ) fun b =>
oF (Qv 9 (.agg [(nI 0),(nI 0),(nI 0),(nI 0),(nI 0),(nI 0),(nI 0),(nI 0),nL]) 0 b) fun b =>
pF a.2 2 fun c =>
pF b 0 fun d =>
oF (Q5 2 c d) fun c =>
oF (Q4 true 2 c σ) fun c =>
oF (Qv 2 (.agg [(nI 0),(nI 0)]) 0 c) fun c =>
oF (QI 5 (List.replicate 0 (.agg [(nI 0),(nI 0),(nI 0),(nI 0),(.bool false)])) []) fun d =>
pF a.2 0 fun e =>
pF c 1 fun f =>
oF (Q5 1 e f) fun e =>
oF (Qh 0 e) fun e =>
oF (Q4 false 1 e σ) fun e =>
pF a.2 0 fun f =>
pF c 0 fun c =>
oF (Q5 1 f c) fun c =>
oF (Qh 0 c) fun c =>
oF (Q4 false 1 c []) fun c =>
XE (QM 5 40 (.list .full d) e σ) fun d e =>
XE (QM 5 40 d c e) fun c d =>
pF a.2 0 fun a =>
pF b 1 fun b =>
oF (Q5 1 a b) fun a =>
oF (Qh 0 a) fun a =>
oF (Q4 false 1 a d) fun a =>
bF .eql a1 (nI 0) fun b =>
gF b true (fun e =>
oF (Qj .sl c d) fun f =>
bF .gtr f (nI 0) fun g =>
e (Q9 [(48,(.v c)),(49,(.v f)),(50,(.v g))]) d) d (fun d e =>
oF (Qc b (d 50).pv (.bool false)) fun b =>
gF b false (fun d =>
oF (Qj .sl c e) fun f =>
oF (Qj .sl a e) fun g =>
bF .gtr f g fun h =>
d (Q9 [(53,(.v c)),(54,(.v f)),(55,(.v a)),(56,(.v g)),(57,(.v h))]) e) e (fun d e =>
oF (Qc b (.bool true) (d 57).pv) fun b =>
Q3 b (
wkR σ (.bool false) e R) (
X6 σ (fun b =>
QC [(7,c),(8,a),(9,nI 0)] fun a =>
Lfp σ (fun c d f =>
oF (Qj .sl (d 7) f) fun g =>
bF .lss (d 9) g fun g =>
Q3 g (
oF (Q5 5 (d 7) (d 9)) fun g =>
oF (Q4 true 5 g f) fun g =>
oF (Q5 5 (d 8) (d 9)) fun h =>
oF (Q4 true 5 h f) fun h =>
oF (QR (some (.st [.int,.int,.int,.int,.bool])) .neq g h) fun g =>
Q3 g (
wkR σ (.bool false) f R) (
bF .add (d 9) (nI 1) fun g =>
kF [(7,d 7),(8,d 8),(9,g)] c f)) (
kF [] b f)) a e) (fun a a =>
wkR σ (.bool true) a R))))
theorem FP (W : Q8) (a0 a1 : PV) (σ : St) (R : Res → St → Prop) : Qn (Qq W) Tryz.prog QO 124 [a0,a1] σ R = Bq Tryz.prog W a0 a1 σ R := by kernel_rfl
def CJ (Pr : Program) (W : Q8) (a0 a1 a2 : PV) (σ : St) (R : Res → St → Prop) : Prop :=
oF (opC.vBoxAny a0) fun a =>
bF .lss a2 (nI 0) fun b =>
gF b false (fun c =>
pF a.2 3 fun d =>
oF (Qj .sl d σ) fun e =>
bF .gtr a2 e fun f =>
c (Q9 [(11,(.v a2)),(12,(.loc 3 3)),(13,(.v d)),(14,(.v e)),(15,(.v f))]) σ) σ (fun c d =>
oF (Qc b (.bool true) (c 15).pv) fun b =>
Q3 b (
wkR σ (nI (-1)) d R) (
X6 σ (fun b =>
QC [(1,a1),(2,a2),(7,nI 0),(3,a.2)] fun a =>
Lfp σ (fun c e f =>
bF .lss (e 7) (e 2) fun g =>
gF g true (fun h =>
bF .geq (e 1) (nI 0) fun i =>
h (Q9 [(21,(.v (e 1))),(22,(.v i))]) f) f (fun f h =>
oF (Qc g (f 22).pv (.bool false)) fun f =>
Q3 f (
pF (e 3) 3 fun f =>
oF (Q5 9 f (e 1)) fun f =>
oF (Qh 4 f) fun f =>
oF (Q4 false 1 f h) fun f =>
bF .add (e 7) (nI 1) fun g =>
kF [(1,f),(2,e 2),(7,g),(3,e 3)] c h) (
kF [(1,e 1)] b h))) a d) (fun a b =>
wkR σ (a 1) b R)))
theorem EL (W : Q8) (a0 a1 a2 : PV) (σ : St) (R : Res → St → Prop) : Qn (Qq W) Tryz.prog QO 125 [a0,a1,a2] σ R = CJ Tryz.prog W a0 a1 a2 σ R := by kernel_rfl
def CD (Pr : Program) (W : Q8) (a0 a1 a2 a3 : PV) (σ : St) (R : Res → St → Prop) : Prop :=
oF (opC.vBoxAny a0) fun a =>
oF (opC.vBoxAny a2) fun b =>
pF b.2 0 fun c =>
bF .eql c (nI 0) fun c =>
Q3 c (
bF .eql a3 (.int .u8 45) fun c =>
gF c false (fun d =>
bF .eql a3 (.int .u8 111) fun e =>
d (Q9 [(16,(.v a3)),(17,(.v e))]) σ) σ (fun d e =>
oF (Qc c (.bool true) (d 17).pv) fun c =>
gF c true (fun d =>
pF b.2 1 fun f =>
bF .eql f (nI 0) fun g =>
d (Q9 [(20,(.loc 6 1)),(21,(.v f)),(22,(.v g))]) e) e (fun d e =>
oF (Qc c (d 22).pv (.bool false)) fun c =>
gF c true (fun d =>
pF b.2 2 fun f =>
bF .eql f (nI 0) fun g =>
d (Q9 [(25,(.loc 6 2)),(26,(.v f)),(27,(.v g))]) e) e (fun d e =>
oF (Qc c (d 27).pv (.bool false)) fun c =>
wkR σ c e R)))) (
oF (Q6 true 10 a.2 0) fun c =>
pF b.2 2 fun d =>
Q0 W 125 [c,a1,d] σ (fun c d =>
bF .lss c (nI 0) fun e =>
gF e false (fun f =>
oF (Q6 true 10 a.2 0) fun g =>
pF b.2 2 fun h =>
Q0 W 234 [g,a1,h] d (fun i j =>
oF (vUn .not i) fun k =>
f (Q9 [(37,(.v g)),(38,(.v a1)),(39,(.loc 6 2)),(40,(.v h)),(41,(.v i)),(42,(.v k))]) j) (pNR R)) d (fun d f =>
oF (Qc e (.bool true) (d 42).pv) fun d =>
Q3 d (
wkR σ (.bool false) f R) (
pF b.2 0 fun d =>
bF .eql d (nI 1) fun d =>
Q3 d (
bF .eql a3 (.int .u8 115) fun d =>
gF d false (fun e =>
bF .eql a3 (.int .u8 111) fun g =>
e (Q9 [(50,(.v a3)),(51,(.v g))]) f) f (fun e g =>
oF (Qc d (.bool true) (e 51).pv) fun d =>
gF d true (fun e =>
pF b.2 1 fun h =>
pF a.2 0 fun i =>
pF a.2 3 fun j =>
oF (Q5 9 j c) fun k =>
oF (Qh 1 k) fun l =>
oF (Q4 false 1 l g) fun m =>
oF (Q5 1 i m) fun n =>
oF (Qh 0 n) fun o =>
oF (Q4 false 1 o g) fun p =>
oF (Qj .sl p g) fun q =>
Q0 W 75 [h,q] g (fun r s =>
e (Q9 [(54,(.loc 6 1)),(55,(.v h)),(56,(.loc 4 0)),(57,(.v i)),(58,(.loc 4 3)),(59,(.v j)),(60,(.v c)),(61,(.v k)),(62,(.v l)),(63,(.v m)),(64,(.v n)),(65,(.v o)),(66,(.v p)),(67,(.v q)),(68,(.v r))]) s) (pNR R)) g (fun e g =>
oF (Qc d (e 68).pv (.bool false)) fun d =>
wkR σ d g R))) (
pF b.2 0 fun d =>
bF .eql d (nI 2) fun d =>
gF d true (fun e =>
bF .eql a3 (.int .u8 114) fun g =>
e (Q9 [(74,(.v a3)),(75,(.v g))]) f) f (fun e f =>
oF (Qc d (e 75).pv (.bool false)) fun d =>
gF d true (fun e =>
pF b.2 1 fun b =>
pF a.2 3 fun a =>
oF (Q5 9 a c) fun g =>
oF (Qh 8 g) fun h =>
oF (Q4 false 1 h f) fun i =>
oF (Qj .sl i f) fun j =>
Q0 W 75 [b,j] f (fun k l =>
e (Q9 [(78,(.loc 6 1)),(79,(.v b)),(80,(.loc 4 3)),(81,(.v a)),(82,(.v c)),(83,(.v g)),(84,(.v h)),(85,(.v i)),(86,(.v j)),(87,(.v k))]) l) (pNR R)) f (fun a b =>
oF (Qc d (a 87).pv (.bool false)) fun a =>
wkR σ a b R)))))) (pNR R))
theorem E1 (W : Q8) (a0 a1 a2 a3 : PV) (σ : St) (R : Res → St → Prop) : Qn (Qq W) Tryz.prog QO 132 [a0,a1,a2,a3] σ R = CD Tryz.prog W a0 a1 a2 a3 σ R := by kernel_rfl
def CP (Pr : Program) (W : Q8) (a0 a1 a2 : PV) (σ : St) (R : Res → St → Prop) : Prop :=
oF (opC.vBoxAny a0) fun a =>
oF (opC.vBoxAny a1) fun b =>
bF .eql a2 (.int .u8 110) fun c =>
Q3 c (
wkR σ (.bool true) σ R) (
bF .eql a2 (.int .u8 104) fun c =>
Q3 c (
pF b.2 10 fun c =>
bF .geq c (nI 0) fun c =>
gF c true (fun d =>
pF b.2 10 fun e =>
bF .lss e (nI 2) fun f =>
d (Q9 [(16,(.loc 4 10)),(17,(.v e)),(18,(.v f))]) σ) σ (fun d e =>
oF (Qc c (d 18).pv (.bool false)) fun c =>
wkR σ c e R)) (
bF .eql a2 (.int .u8 98) fun c =>
Q3 c (
pF b.2 10 fun c =>
bF .geq c (nI 0) fun c =>
gF c true (fun d =>
pF b.2 10 fun e =>
bF .lss e (nI 8) fun f =>
d (Q9 [(26,(.loc 4 10)),(27,(.v e)),(28,(.v f))]) σ) σ (fun d e =>
oF (Qc c (d 28).pv (.bool false)) fun c =>
wkR σ c e R)) (
bF .eql a2 (.int .u8 77) fun c =>
Q3 c (
pF b.2 1 fun c =>
bF .eql c (nI 0) fun c =>
gF c true (fun d =>
pF b.2 10 fun e =>
bF .eql e (nI 0) fun f =>
d (Q9 [(37,(.loc 4 10)),(38,(.v e)),(39,(.v f))]) σ) σ (fun d e =>
oF (Qc c (d 39).pv (.bool false)) fun c =>
gF c false (fun d =>
pF b.2 1 fun f =>
bF .neq f (nI 0) fun g =>
d (Q9 [(42,(.loc 4 1)),(43,(.loc 4 1)),(44,(.v f)),(45,(.v g)),(46,(.v g))]) e) e (fun d e =>
gF (d 46).pv true (fun f =>
pF b.2 10 fun g =>
bF .geq g (nI 0) fun h =>
f (Q9 [(47,(.loc 4 10)),(48,(.v g)),(49,(.v h))]) e) e (fun e f =>
gF c false (fun g =>
oF (Qc (d 46).pv (e 49).pv (.bool false)) fun d =>
g (Q9 [(50,(.v d)),(51,(.v d))]) f) f (fun d e =>
gF (d 51).pv true (fun f =>
pF b.2 10 fun g =>
pF a.2 0 fun a =>
oF (Qj .sl a e) fun h =>
bF .lss g h fun i =>
f (Q9 [(52,(.loc 4 10)),(53,(.v g)),(54,(.loc 3 0)),(55,(.v a)),(56,(.v h)),(57,(.v i))]) e) e (fun a e =>
gF c false (fun f =>
oF (Qc (d 51).pv (a 57).pv (.bool false)) fun a =>
f (Q9 [(58,(.v a))]) e) e (fun a d =>
oF (Qc c (.bool true) (a 58).pv) fun a =>
wkR σ a d R))))))) (
pF b.2 10 fun a =>
bF .eql a (nI 0) fun a =>
wkR σ a σ R))))
theorem FH (W : Q8) (a0 a1 a2 : PV) (σ : St) (R : Res → St → Prop) : Qn (Qq W) Tryz.prog QO 133 [a0,a1,a2] σ R = CP Tryz.prog W a0 a1 a2 σ R := by kernel_rfl
def Br (Pr : Program) (W : Q8) (a0 a1 a2 a3 a4 a5 : PV) (σ : St) (R : Res → St → Prop) : Prop :=
oF (opC.vBoxAny a0) fun a =>
oF (opC.vBoxAny a2) fun b =>
pF b.2 11 fun c =>
X6 σ (fun d =>
bF .eql a3 (.int .u8 101) fun e =>
Q3 e (
bF .geq c (nI (-1000)) fun e =>
gF e true (fun f =>
bF .leq c (nI 1000) fun g =>
f (Q9 [(22,(.v c)),(23,(.v g))]) σ) σ (fun f g =>
oF (Qc e (f 23).pv (.bool false)) fun e =>
wkR σ e g R)) (
bF .eql a3 (.int .u8 104) fun e =>
Q3 e (
Q0 W 75 [c,(nI 2)] σ (fun e f =>
wkR σ e f R) (pNR R)) (
bF .eql a3 (.int .u8 100) fun e =>
Q3 e (
Q0 W 75 [c,(nI 3)] σ (fun e f =>
wkR σ e f R) (pNR R)) (
bF .eql a3 (.int .u8 68) fun e =>
Q3 e (
bF .geq c (nI 1) fun e =>
gF e true (fun f =>
bF .leq c (nI 3) fun g =>
f (Q9 [(38,(.v c)),(39,(.v g))]) σ) σ (fun f g =>
oF (Qc e (f 39).pv (.bool false)) fun e =>
wkR σ e g R)) (
bF .eql a3 (.int .u8 117) fun e =>
Q3 e (
Q0 W 75 [c,(nI 64)] σ (fun e f =>
wkR σ e f R) (pNR R)) (
bF .eql a3 (.int .u8 111) fun e =>
Q3 e (
Q3 e (
Q0 W 75 [c,(nI 1000)] σ (fun e f =>
wkR σ e f R) (pNR R)) (
bF .eql a3 (.int .u8 109) fun e =>
Q3 e (
pF a.2 0 fun e =>
oF (Qj .sl e σ) fun e =>
Q0 W 75 [c,e] σ (fun e f =>
wkR σ e f R) (pNR R)) (
bF .eql a3 (.int .u8 116) fun e =>
Q3 e (
pF a.2 7 fun e =>
oF (Qj .sl e σ) fun e =>
Q0 W 75 [c,e] σ (fun e f =>
wkR σ e f R) (pNR R)) (
bF .eql a3 (.int .u8 99) fun e =>
Q3 e (
pF a.2 5 fun e =>
oF (Qj .sl e σ) fun e =>
Q0 W 75 [c,e] σ (fun e f =>
wkR σ e f R) (pNR R)) (
bF .eql a3 (.int .u8 112) fun e =>
Q3 e (
pF a.2 6 fun e =>
oF (Qj .sl e σ) fun e =>
Q0 W 75 [c,e] σ (fun e f =>
wkR σ e f R) (pNR R)) (
bF .eql a3 (.int .u8 120) fun e =>
Q3 e (
pF a.2 8 fun e =>
oF (Qj .sl e σ) fun e =>
Q0 W 75 [c,e] σ (fun e f =>
wkR σ e f R) (pNR R)) (
bF .eql a3 (.int .u8 102) fun e =>
Q3 e (
bF .geq c (nI 1) fun e =>
gF e true (fun f =>
pF a.2 3 fun g =>
oF (Qj .sl g σ) fun h =>
bF .lss c h fun i =>
f (Q9 [(90,(.v c)),(91,(.loc 6 3)),(92,(.v g)),(93,(.v h)),(94,(.v i))]) σ) σ (fun f g =>
oF (Qc e (f 94).pv (.bool false)) fun e =>
gF e true (fun f =>
pF a.2 3 fun h =>
oF (Q5 9 h c) fun i =>
oF (Qh 4 i) fun j =>
oF (Q4 false 1 j g) fun k =>
bF .eql k a1 fun l =>
f (Q9 [(97,(.loc 6 3)),(98,(.v h)),(99,(.v c)),(100,(.v i)),(101,(.v j)),(102,(.v k)),(103,(.v a1)),(104,(.v l))]) g) g (fun f g =>
oF (Qc e (f 104).pv (.bool false)) fun e =>
wkR σ e g R))) (
bF .eql a3 (.int .u8 103) fun e =>
Q3 e (
bF .geq c (nI 1) fun e =>
gF e true (fun f =>
pF a.2 3 fun g =>
oF (Q5 9 g a1) fun h =>
oF (Qh 8 h) fun i =>
oF (Q4 false 1 i σ) fun j =>
oF (Qj .sl j σ) fun k =>
bF .lss c k fun l =>
f (Q9 [(111,(.v c)),(112,(.loc 6 3)),(113,(.v g)),(114,(.v a1)),(115,(.v h)),(116,(.v i)),(117,(.v j)),(118,(.v k)),(119,(.v l))]) σ) σ (fun f g =>
oF (Qc e (f 119).pv (.bool false)) fun e =>
wkR σ e g R)) (
bF .eql a3 (.int .u8 106) fun e =>
Q3 e (
oF (Q6 true 10 a.2 0) fun e =>
Q0 W 135 [e,a1,c] σ (fun e f =>
wkR σ e f R) (pNR R)) (
bF .eql a3 (.int .u8 74) fun e =>
Q3 e (
oF (Q6 true 10 a.2 0) fun e =>
oF (Q6 true 10 a.2 0) fun f =>
pF b.2 3 fun g =>
Q0 W 125 [f,a1,g] σ (fun f g =>
Q0 W 135 [e,f,c] g (fun e f =>
wkR σ e f R) (pNR R)) (pNR R)) (
bF .eql a3 (.int .u8 113) fun e =>
Q3 e (
Q0 W 75 [c,a4] σ (fun e f =>
wkR σ e f R) (pNR R)) (
bF .eql a3 (.int .u8 105) fun e =>
Q3 e (
Q0 W 75 [c,a5] σ (fun e f =>
wkR σ e f R) (pNR R)) (
kF [(13,c)] d σ))))))))))))) (
bF .eql a3 (.int .u8 107) fun e =>
Q3 e (
Q0 W 75 [c,(nI 1000)] σ (fun e f =>
wkR σ e f R) (pNR R)) (
bF .eql a3 (.int .u8 109) fun e =>
Q3 e (
pF a.2 0 fun e =>
oF (Qj .sl e σ) fun e =>
Q0 W 75 [c,e] σ (fun e f =>
wkR σ e f R) (pNR R)) (
bF .eql a3 (.int .u8 116) fun e =>
Q3 e (
pF a.2 7 fun e =>
oF (Qj .sl e σ) fun e =>
Q0 W 75 [c,e] σ (fun e f =>
wkR σ e f R) (pNR R)) (
bF .eql a3 (.int .u8 99) fun e =>
Q3 e (
pF a.2 5 fun e =>
oF (Qj .sl e σ) fun e =>
Q0 W 75 [c,e] σ (fun e f =>
wkR σ e f R) (pNR R)) (
bF .eql a3 (.int .u8 112) fun e =>
Q3 e (
pF a.2 6 fun e =>
oF (Qj .sl e σ) fun e =>
Q0 W 75 [c,e] σ (fun e f =>
wkR σ e f R) (pNR R)) (
bF .eql a3 (.int .u8 120) fun e =>
Q3 e (
pF a.2 8 fun e =>
oF (Qj .sl e σ) fun e =>
Q0 W 75 [c,e] σ (fun e f =>
wkR σ e f R) (pNR R)) (
bF .eql a3 (.int .u8 102) fun e =>
Q3 e (
bF .geq c (nI 1) fun e =>
gF e true (fun f =>
pF a.2 3 fun g =>
oF (Qj .sl g σ) fun h =>
bF .lss c h fun i =>
f (Q9 [(90,(.v c)),(91,(.loc 6 3)),(92,(.v g)),(93,(.v h)),(94,(.v i))]) σ) σ (fun f g =>
oF (Qc e (f 94).pv (.bool false)) fun e =>
gF e true (fun f =>
pF a.2 3 fun h =>
oF (Q5 9 h c) fun i =>
oF (Qh 4 i) fun j =>
oF (Q4 false 1 j g) fun k =>
bF .eql k a1 fun l =>
f (Q9 [(97,(.loc 6 3)),(98,(.v h)),(99,(.v c)),(100,(.v i)),(101,(.v j)),(102,(.v k)),(103,(.v a1)),(104,(.v l))]) g) g (fun f g =>
oF (Qc e (f 104).pv (.bool false)) fun e =>
wkR σ e g R))) (
bF .eql a3 (.int .u8 103) fun e =>
Q3 e (
bF .geq c (nI 1) fun e =>
gF e true (fun f =>
pF a.2 3 fun g =>
oF (Q5 9 g a1) fun h =>
oF (Qh 8 h) fun i =>
oF (Q4 false 1 i σ) fun j =>
oF (Qj .sl j σ) fun k =>
bF .lss c k fun l =>
f (Q9 [(111,(.v c)),(112,(.loc 6 3)),(113,(.v g)),(114,(.v a1)),(115,(.v h)),(116,(.v i)),(117,(.v j)),(118,(.v k)),(119,(.v l))]) σ) σ (fun f g =>
oF (Qc e (f 119).pv (.bool false)) fun e =>
wkR σ e g R)) (
bF .eql a3 (.int .u8 106) fun e =>
Q3 e (
oF (Q6 true 10 a.2 0) fun e =>
Q0 W 135 [e,a1,c] σ (fun e f =>
wkR σ e f R) (pNR R)) (
bF .eql a3 (.int .u8 74) fun e =>
Q3 e (
oF (Q6 true 10 a.2 0) fun e =>
oF (Q6 true 10 a.2 0) fun a =>
pF b.2 3 fun b =>
Q0 W 125 [a,a1,b] σ (fun a b =>
Q0 W 135 [e,a,c] b (fun a b =>
wkR σ a b R) (pNR R)) (pNR R)) (
bF .eql a3 (.int .u8 113) fun a =>
Q3 a (
Q0 W 75 [c,a4] σ (fun a b =>
wkR σ a b R) (pNR R)) (
bF .eql a3 (.int .u8 105) fun a =>
Q3 a (
Q0 W 75 [c,a5] σ (fun a b =>
wkR σ a b R) (pNR R)) (
kF [(13,c)] d σ))))))))))))))))))) (fun a b =>
bF .eql (a 13) (nI 0) fun a =>
wkR σ a b R)
theorem F5 (W : Q8) (a0 a1 a2 a3 a4 a5 : PV) (σ : St) (R : Res → St → Prop) : Qn (Qq W) Tryz.prog QO 134 [a0,a1,a2,a3,a4,a5] σ R = Br Tryz.prog W a0 a1 a2 a3 a4 a5 σ R := by kernel_rfl
def Bk (Pr : Program) (W : Q8) (a0 a1 a2 : PV) (σ : St) (R : Res → St → Prop) : Prop :=
oF (opC.vBoxAny a0) fun a =>
bF .geq a1 (nI 0) fun b =>
gF b true (fun c =>
pF a.2 3 fun d =>
oF (Q5 9 d a1) fun e =>
oF (Qh 2 e) fun f =>
oF (Q4 false 1 f σ) fun g =>
bF .geq a2 g fun h =>
c (Q9 [(10,(.v a2)),(11,(.loc 3 3)),(12,(.v d)),(13,(.v a1)),(14,(.v e)),(15,(.v f)),(16,(.v g)),(17,(.v h))]) σ) σ (fun c d =>
oF (Qc b (c 17).pv (.bool false)) fun b =>
gF b true (fun c =>
pF a.2 3 fun a =>
oF (Q5 9 a a1) fun e =>
oF (Qh 3 e) fun f =>
oF (Q4 false 1 f d) fun g =>
bF .lss a2 g fun h =>
c (Q9 [(20,(.v a2)),(21,(.loc 3 3)),(22,(.v a)),(23,(.v a1)),(24,(.v e)),(25,(.v f)),(26,(.v g)),(27,(.v h))]) d) d (fun a c =>
oF (Qc b (a 27).pv (.bool false)) fun a =>
wkR σ a c R))
theorem GL (W : Q8) (a0 a1 a2 : PV) (σ : St) (R : Res → St → Prop) : Qn (Qq W) Tryz.prog QO 135 [a0,a1,a2] σ R = Bk Tryz.prog W a0 a1 a2 σ R := by kernel_rfl
def CQ (Pr : Program) (W : Q8) (a0 a1 : PV) (σ : St) (R : Res → St → Prop) : Prop :=
oF (opC.vBoxAny a0) fun a =>
oF (Q4 false 1 a1 σ) fun b =>
pF a.2 2 fun c =>
bF .geq b c fun b =>
gF b true (fun c =>
oF (Q4 false 1 a1 σ) fun d =>
pF a.2 3 fun a =>
bF .lss d a fun e =>
c (Q9 [(9,(.v d)),(10,(.loc 2 3)),(11,(.v a)),(12,(.v e))]) σ) σ (fun a c =>
oF (Qc b (a 12).pv (.bool false)) fun a =>
wkR σ a c R)
theorem Fv (W : Q8) (a0 a1 : PV) (σ : St) (R : Res → St → Prop) : Qn (Qq W) Tryz.prog QO 137 [a0,a1] σ R = CQ Tryz.prog W a0 a1 σ R := by kernel_rfl
def Bg (Pr : Program) (W : Q8) (a0 : PV) (σ : St) (R : Res → St → Prop) : Prop :=
oF (Qj .sl a0 σ) fun a =>
QC [(0,a0),(3,nI 0),(9,a0),(10,a),(11,nI 0)] fun a =>
Lfp σ (fun b c d =>
bF .lss (c 11) (c 10) fun e =>
Q3 e (
oF (Q5 1 (c 9) (c 11)) fun e =>
oF (Q4 false 1 e d) fun e =>
oF (Qj .sl e d) fun e =>
bF .add (c 3) e fun e =>
bF .lss e (nI 0) fun f =>
Q3 f (
Jm (.iface 9 (.str [108,101,110,32,111,117,116,32,111,102,32,114,97,110,103,101])) fun f => R (.pan f) d) (
bF .add (c 11) (nI 1) fun f =>
kF [(0,c 0),(3,e),(9,c 9),(10,c 10),(11,f)] b d)) (
Q0 W 276 [nL,(c 3)] d (fun b d =>
oF (Qj .sl (c 0) d) fun e =>
QC [(6,b),(25,c 0),(26,e),(27,nI 0)] fun b =>
Lfp σ (fun c e f =>
bF .lss (e 27) (e 26) fun g =>
Q3 g (
oF (Q5 1 (e 25) (e 27)) fun g =>
oF (Q4 false 1 g f) fun g =>
XE (QM 5 40 (e 6) g f) fun g h =>
bF .add (e 27) (nI 1) fun i =>
kF [(6,g),(25,e 25),(26,e 26),(27,i)] c h) (
wkR σ (e 6) f R)) b d) (pNR R))) a σ
theorem Gs (W : Q8) (a0 : PV) (σ : St) (R : Res → St → Prop) : Qn (Qq W) Tryz.prog QO 225 [a0] σ R = Bg Tryz.prog W a0 σ R := by kernel_rfl
def Bs (Pr : Program) (W : Q8) (a0 a1 : PV) (σ : St) (R : Res → St → Prop) : Prop :=
oF (Qj .sl a0 σ) fun a =>
oF (Qj .sl a1 σ) fun b =>
bF .neq a b fun a =>
Q3 a (
wkR σ (.bool false) σ R) (
oF (Qj .sl a0 σ) fun a =>
QC [(0,a0),(1,a1),(12,a),(13,nI 0)] fun a =>
Lfp σ (fun b c d =>
bF .lss (c 13) (c 12) fun e =>
Q3 e (
oF (Q5 5 (c 0) (c 13)) fun e =>
oF (Q4 true 5 e d) fun e =>
oF (Q5 5 (c 1) (c 13)) fun f =>
oF (Q4 true 5 f d) fun f =>
oF (QR (some (.st [.int,.int,.int,.int,.bool])) .neq e f) fun e =>
Q3 e (
wkR σ (.bool false) d R) (
bF .add (c 13) (nI 1) fun e =>
kF [(0,c 0),(1,c 1),(12,c 12),(13,e)] b d)) (
wkR σ (.bool true) d R)) a σ)
theorem E5 (W : Q8) (a0 a1 : PV) (σ : St) (R : Res → St → Prop) : Qn (Qq W) Tryz.prog QO 226 [a0,a1] σ R = Bs Tryz.prog W a0 a1 σ R := by kernel_rfl
def CY (Pr : Program) (W : Q8) (a0 a1 a2 : PV) (σ : St) (R : Res → St → Prop) : Prop :=
oF (opC.vBoxAny a0) fun a =>
bF .lss a2 (nI 0) fun b =>
Q3 b (
wkR σ (.tuple [(nI 0),(.bool false)]) σ R) (
X6 σ (fun b =>
QC [(1,a1),(2,a2),(3,a.2)] fun a =>
Lfp σ (fun c d e =>
bF .gtr (d 2) (nI 0) fun f =>
Q3 f (
pF (d 3) 3 fun f =>
oF (Q5 9 f (d 1)) fun f =>
oF (Qh 4 f) fun f =>
oF (Q4 false 1 f e) fun f =>
bF .lss f (nI 0) fun g =>
Q3 g (
wkR σ (.tuple [(nI 0),(.bool false)]) e R) (
bF .sub (d 2) (nI 1) fun g =>
kF [(1,f),(2,g),(3,d 3)] c e)) (
kF [(1,d 1)] b e)) a σ) (fun a b =>
wkR σ (.tuple [(a 1),(.bool true)]) b R))
theorem Eu (W : Q8) (a0 a1 a2 : PV) (σ : St) (R : Res → St → Prop) : Qn (Qq W) Tryz.prog QO 227 [a0,a1,a2] σ R = CY Tryz.prog W a0 a1 a2 σ R := by kernel_rfl
def CV (Pr : Program) (W : Q8) (a0 a1 a2 : PV) (σ : St) (R : Res → St → Prop) : Prop :=
oF (opC.vBoxAny a0) fun a =>
X6 σ (fun b =>
QC [(1,a1),(2,a2),(3,a.2)] fun a =>
Lfp σ (fun c d e =>
bF .gtr (d 2) (nI 0) fun f =>
Q3 f (
pF (d 3) 3 fun f =>
oF (Q5 9 f (d 1)) fun f =>
oF (Q4 true 9 f e) fun f =>
oF (Qv 9 (.agg [(nI 0),(nI 0),(nI 0),(nI 0),(nI 0),(nI 0),(nI 0),(nI 0),nL]) 0 f) fun f =>
pF f 6 fun g =>
bF .lss g (nI 1) fun g =>
gF g false (fun h =>
pF f 6 fun i =>
bF .gtr i (d 2) fun j =>
h (Q9 [(23,(.loc 8 6)),(24,(.v i)),(25,(.v (d 2))),(26,(.v j))]) e) e (fun h i =>
oF (Qc g (.bool true) (h 26).pv) fun g =>
gF g false (fun h =>
pF f 4 fun j =>
bF .lss j (nI 0) fun k =>
h (Q9 [(29,(.loc 8 4)),(30,(.v j)),(31,(.v k))]) i) i (fun h i =>
oF (Qc g (.bool true) (h 31).pv) fun g =>
Q3 g (
wkR σ (.tuple [(nI 0),(.bool false)]) i R) (
pF f 4 fun f =>
bF .sub (d 2) (nI 1) fun g =>
kF [(1,f),(2,g),(3,d 3)] c i)))) (
kF [(1,d 1),(2,d 2)] b e)) a σ) (fun a b =>
bF .eql (a 2) (nI 0) fun c =>
wkR σ (.tuple [(a 1),c]) b R)
theorem F1 (W : Q8) (a0 a1 a2 : PV) (σ : St) (R : Res → St → Prop) : Qn (Qq W) Tryz.prog QO 228 [a0,a1,a2] σ R = CV Tryz.prog W a0 a1 a2 σ R := by kernel_rfl
def Bx (Pr : Program) (W : Q8) (a0 a1 : PV) (σ : St) (R : Res → St → Prop) : Prop :=
oF (Qh 2 a1) fun a =>
oF (Q4 false 1 a σ) fun a =>
bF .lss a0 a fun a =>
gF a false (fun b =>
oF (Qh 3 a1) fun c =>
oF (Q4 false 1 c σ) fun d =>
bF .geq a0 d fun e =>
b (Q9 [(9,(.v a0)),(10,(.v c)),(11,(.v d)),(12,(.v e))]) σ) σ (fun b c =>
oF (Qc a (.bool true) (b 12).pv) fun a =>
wkR σ a c R)
theorem GS (W : Q8) (a0 a1 : PV) (σ : St) (R : Res → St → Prop) : Qn (Qq W) Tryz.prog QO 229 [a0,a1] σ R = Bx Tryz.prog W a0 a1 σ R := by kernel_rfl
def B7 (Pr : Program) (W : Q8) (a0 : PV) (σ : St) (R : Res → St → Prop) : Prop :=
bF .lss a0 (nI (-1)) fun a =>
gF a false (fun b =>
bF .geq a0 (nI 64) fun c =>
b (Q9 [(6,(.v a0)),(7,(.v c))]) σ) σ (fun b c =>
oF (Qc a (.bool true) (b 7).pv) fun a =>
wkR σ a c R)
theorem Fb (W : Q8) (a0 : PV) (σ : St) (R : Res → St → Prop) : Qn (Qq W) Tryz.prog QO 230 [a0] σ R = B7 Tryz.prog W a0 σ R := by kernel_rfl
def CZ (Pr : Program) (W : Q8) (a0 a1 a2 : PV) (σ : St) (R : Res → St → Prop) : Prop :=
oF (opC.vBoxAny a0) fun a =>
X6 σ (fun b =>
QC [(1,a1),(7,a2),(3,a.2)] fun a =>
Lfp σ (fun c d e =>
bF .gtr (d 7) (nI 0) fun f =>
Q3 f (
pF (d 3) 3 fun f =>
oF (Q5 9 f (d 1)) fun f =>
oF (Qh 6 f) fun f =>
oF (Q4 false 1 f e) fun f =>
bF .lss f (nI 1) fun f =>
gF f false (fun g =>
pF (d 3) 3 fun h =>
oF (Q5 9 h (d 1)) fun i =>
oF (Qh 6 i) fun j =>
oF (Q4 false 1 j e) fun k =>
bF .gtr k (d 7) fun l =>
g (Q9 [(21,(.loc 3 3)),(22,(.v h)),(23,(.v (d 1))),(24,(.v i)),(25,(.v j)),(26,(.v k)),(27,(.v (d 7))),(28,(.v l))]) e) e (fun g h =>
oF (Qc f (.bool true) (g 28).pv) fun f =>
Q3 f (
wkR σ (.bool false) h R) (
pF (d 3) 3 fun f =>
oF (Q5 9 f (d 1)) fun f =>
oF (Qh 4 f) fun f =>
oF (Q4 false 1 f h) fun f =>
bF .sub (d 7) (nI 1) fun g =>
kF [(1,f),(7,g),(3,d 3)] c h))) (
kF [] b e)) a σ) (fun a a =>
wkR σ (.bool true) a R)
theorem EU (W : Q8) (a0 a1 a2 : PV) (σ : St) (R : Res → St → Prop) : Qn (Qq W) Tryz.prog QO 234 [a0,a1,a2] σ R = CZ Tryz.prog W a0 a1 a2 σ R := by kernel_rfl
def Fj (Pr : Program) (W : Q8) (a0 a1 : PV) (σ : St) (R : Res → St → Prop) : Prop :=
bF .lss a1 (nI 0) fun a =>
Q3 a (
Jm (.iface 9 (.str [99,97,110,110,111,116,32,98,101,32,110,101,103,97,116,105,118,101])) fun a => R (.pan a) σ) (
oF (HB a0) fun a =>
oF (Qj .sl a0 σ) fun b =>
bF .sub a b fun a =>
bF .sub a1 a fun a =>
bF .gtr a (nI 0) fun b =>
Q3 b (
oF (HB a0) fun b =>
oF (XN 5 a0 none (some b)) fun b =>
XE (U2 5 40 (.agg [(nI 0),(nI 0),(nI 0),(nI 0),(.bool false)]) b a σ) fun a b =>
oF (Qj .sl a0 b) fun c =>
oF (XN 5 a none (some c)) fun a =>
wkR σ a b R) (
wkR σ a0 σ R))
theorem J7 (W : Q8) (a0 a1 : PV) (σ : St) (R : Res → St → Prop) : Qn (Qq W) Tryz.prog QO 276 [a0,a1] σ R = Fj Tryz.prog W a0 a1 σ R := by kernel_rfl
end Go.Proofs.YtgghfcchanilpaaGreatDoor
