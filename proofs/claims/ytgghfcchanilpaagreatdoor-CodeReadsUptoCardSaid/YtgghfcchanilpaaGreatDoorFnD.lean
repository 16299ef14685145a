import Derived.KernelRfl
import Derived.Test.YtgghfcchanilpaaGreatDoorAnn
import Derived.Test.YtgghfcchanilpaaGreatDoorProg
set_option linter.unusedVariables false
set_option linter.unusedSimpArgs false
namespace Go.Proofs.YtgghfcchanilpaaGreatDoor
open Go Go.Abs
def AK (Pr : Program) (W : Q8) (a0 : PV) (σ : St) (R : Res → St → Prop) : Prop :=
oF (opC.vBoxAny a0) fun a =>
oF (Q6 true 10 a.2 0) fun b =>
Q0 W 56 [] σ (fun c d =>
oF (Qj .sl c []) fun c =>
Q0 W 57 [] d (fun d e =>
oF (Qj .sl d e) fun d =>
oF (QF [nL,nL,nL,nL,nL,nL,nL,nL,nL,nL,(nI 0),(nI 0)] [(0,10,b),(10,1,c),(11,1,d)]) fun b =>
oF (Qv 12 (.agg [nL,nL,nL,nL,nL,nL,nL,nL,nL,nL,(nI 0),(nI 0)]) 0 (.agg b)) fun b =>
oF (Q6 true 12 b 0) fun c =>
oF (Q6 true 12 b 0) fun d =>
oF (Q6 true 12 b 0) fun f =>
oF (Q6 true 12 b 0) fun g =>
oF (Q6 true 12 b 0) fun h =>
oF (QI 1 (List.replicate 5 .nilfunc) [(0,(.func 58 1 [c])),(1,(.func 59 1 [d])),(2,(.func 60 1 [f])),(3,(.func 61 1 [g])),(4,(.func 62 1 [h]))]) fun c =>
oF (Qj .sl (.list .full c) e) fun d =>
QC [(25,(.list .full c)),(26,d),(27,nI 0),(1,a.2),(2,(.agg [(nI 0),(nI 0)])),(3,b)] fun a =>
Lfp σ (fun b c d =>
bF .lss (c 27) (c 26) fun f =>
Q3 f (
oF (Q5 1 (c 25) (c 27)) fun f =>
oF (Q4 false 1 f d) fun f =>
Zc (Qq W) Pr false f [] d (fun f g =>
bF .neq f (nI 0) fun h =>
Q3 h (
oF (QF [(nI 0),(nI 0)] [(1,1,f)]) fun f =>
oF (Qv 2 (c 2) 0 (.agg f)) fun f =>
wvR σ (Qs (Q6 true 2 f 0) (some [])) g R) (
bF .add (c 27) (nI 1) fun f =>
kF [(25,c 25),(26,c 26),(27,f),(1,c 1),(2,c 2),(3,c 3)] b g)) (pNR R)) (
pF (c 1) 4 fun b =>
oF (Qj .sl b d) fun b =>
QC [(40,b),(41,nI 0),(2,c 2),(3,c 3)] fun b =>
Lfp σ (fun c f g =>
bF .lss (f 41) (f 40) fun h =>
Q3 h (
oF (Q6 true 12 (f 3) 0) fun h =>
Q0 W 63 [h,(f 41)] g (fun h i =>
bF .neq h (nI 0) fun j =>
Q3 j (
oF (QF [(nI 0),(nI 0)] [(0,1,(f 41)),(1,1,h)]) fun h =>
oF (Qv 2 (f 2) 0 (.agg h)) fun h =>
wvR σ (Qs (Q6 true 2 h 0) (some [])) i R) (
bF .add (f 41) (nI 1) fun h =>
kF [(40,f 40),(41,h),(2,f 2),(3,f 3)] c i)) (pNR R)) (
oF (QF [(nI 0),(nI 0)] []) fun c =>
oF (Qv 2 (f 2) 0 (.agg c)) fun c =>
wvR σ (Qs (Q6 true 2 c 0) (some [])) g R)) b d)) a e) (fun a a => False)) (fun a a => False)
theorem Co (W : Q8) (a0 : PV) (σ : St) (R : Res → St → Prop) : Qn (Qq W) Tryz.prog QO 24 [a0] σ R = AK Tryz.prog W a0 σ R := by kernel_rfl
def qC (Pr : Program) (W : Q8) (a0 : PV) (σ : St) (R : Res → St → Prop) : Prop :=
oF (opC.vBoxAny a0) fun a =>
oF (Q6 true 10 a.2 0) fun b =>
Q0 W 64 [b] σ (fun b c =>
oF (vUn .not b) fun b =>
Q3 b (
oF (QF [(nI 0),(nI 0)] [(1,1,(nI 3))]) fun b =>
oF (Qv 2 (.agg [(nI 0),(nI 0)]) 0 (.agg b)) fun b =>
wvR σ (Qs (Q6 true 2 b 0) (some [])) c R) (
oF (Q6 true 10 a.2 0) fun b =>
Q0 W 65 [b] c (fun b c =>
bF .neq b (nI 0) fun d =>
Q3 d (
oF (QF [(nI 0),(nI 0)] [(1,1,b)]) fun b =>
oF (Qv 2 (.agg [(nI 0),(nI 0)]) 0 (.agg b)) fun b =>
wvR σ (Qs (Q6 true 2 b 0) (some [])) c R) (
X6 σ (fun b =>
QC [(4,nI 0),(1,a.2),(2,(.agg [(nI 0),(nI 0)]))] fun a =>
Lfp σ (fun d e f =>
pF (e 1) 3 fun g =>
oF (Qj .sl g f) fun g =>
bF .lss (e 4) g fun g =>
Q3 g (
oF (Q6 true 10 (e 1) 0) fun g =>
Q0 W 66 [g,(e 4)] f (fun g h =>
bF .neq g (nI 0) fun i =>
Q3 i (
oF (QF [(nI 0),(nI 0)] [(1,1,g)]) fun g =>
oF (Qv 2 (e 2) 0 (.agg g)) fun g =>
wvR σ (Qs (Q6 true 2 g 0) (some [])) h R) (
bF .add (e 4) (nI 1) fun g =>
kF [(4,g),(1,e 1),(2,e 2)] d h)) (pNR R)) (
kF [(1,e 1),(2,e 2)] b f)) a c) (fun a b =>
pF (a 1) 3 fun c =>
oF (Qj .sl c b) fun c =>
bF .eql c (nI 0) fun c =>
Q3 c (
oF (QF [(nI 0),(nI 0)] [(1,1,(nI 12))]) fun c =>
oF (Qv 2 (a 2) 0 (.agg c)) fun c =>
wvR σ (Qs (Q6 true 2 c 0) (some [])) b R) (
oF (Q6 true 10 (a 1) 0) fun c =>
Q0 W 67 [c] b (fun b c =>
bF .neq b (nI 0) fun d =>
Q3 d (
oF (QF [(nI 0),(nI 0)] [(1,1,b)]) fun b =>
oF (Qv 2 (a 2) 0 (.agg b)) fun b =>
wvR σ (Qs (Q6 true 2 b 0) (some [])) c R) (
Q0 W 68 [] c (fun b c =>
oF (Qj .sl b c) fun b =>
Q0 W 69 [] c (fun c d =>
oF (Qj .sl c d) fun c =>
X6 σ (fun e =>
QC [(7,b),(8,c),(9,nI 0),(1,a 1),(2,a 2)] fun a =>
Lfp σ (fun b c f =>
pF (c 1) 3 fun g =>
oF (Qj .sl g f) fun g =>
bF .lss (c 9) g fun g =>
Q3 g (
X6 σ (fun g =>
pF (c 1) 3 fun h =>
oF (Q5 9 h (c 9)) fun h =>
oF (Qh 2 h) fun h =>
oF (Q4 false 1 h f) fun h =>
QC [(7,c 7),(8,c 8),(9,c 9),(10,h),(1,c 1),(2,c 2)] fun h =>
Lfp σ (fun i j k =>
pF (j 1) 3 fun l =>
oF (Q5 9 l (j 9)) fun l =>
oF (Qh 3 l) fun l =>
oF (Q4 false 1 l k) fun l =>
bF .lss (j 10) l fun l =>
Q3 l (
oF (Q6 true 10 (j 1) 0) fun l =>
pF (j 1) 4 fun m =>
oF (Q5 12 m (j 10)) fun m =>
oF (Q4 true 12 m k) fun m =>
Q0 W 70 [l,(j 9),m,(j 7),(j 8)] k (fun l m =>
bF .neq l (nI 0) fun n =>
Q3 n (
oF (QF [(nI 0),(nI 0)] [(0,1,(j 10)),(1,1,l)]) fun l =>
oF (Qv 2 (j 2) 0 (.agg l)) fun l =>
wvR σ (Qs (Q6 true 2 l 0) (some [])) m R) (
bF .add (j 10) (nI 1) fun l =>
kF [(7,j 7),(8,j 8),(9,j 9),(10,l),(1,j 1),(2,j 2)] i m)) (pNR R)) (
kF [(7,j 7),(8,j 8),(9,j 9),(1,j 1),(2,j 2)] g k)) h f) (fun g h =>
bF .add (g 9) (nI 1) fun i =>
kF [(7,g 7),(8,g 8),(9,i),(1,g 1),(2,g 2)] b h)) (
kF [(2,c 2)] e f)) a d) (fun a b =>
oF (QF [(nI 0),(nI 0)] []) fun c =>
oF (Qv 2 (a 2) 0 (.agg c)) fun a =>
wvR σ (Qs (Q6 true 2 a 0) (some [])) b R)) (pNR R)) (pNR R))) (pNR R))))) (pNR R))) (pNR R)
theorem DK (W : Q8) (a0 : PV) (σ : St) (R : Res → St → Prop) : Qn (Qq W) Tryz.prog QO 25 [a0] σ R = qC Tryz.prog W a0 σ R := by kernel_rfl
def qH (Pr : Program) (W : Q8) (a0 : PV) (σ : St) (R : Res → St → Prop) : Prop :=
oF (opC.vBoxAny a0) fun a =>
pF a.2 4 fun b =>
oF (Qj .sl b σ) fun b =>
pF a.2 0 fun c =>
oF (Qj .sl c σ) fun c =>
pF a.2 1 fun d =>
oF (Qj .sl d σ) fun d =>
pF a.2 2 fun e =>
oF (Qj .sl e σ) fun e =>
pF a.2 3 fun f =>
oF (Qj .sl f σ) fun f =>
pF a.2 5 fun g =>
oF (Qj .sl g σ) fun g =>
pF a.2 6 fun h =>
oF (Qj .sl h σ) fun h =>
pF a.2 7 fun i =>
oF (Qj .sl i σ) fun i =>
pF a.2 8 fun j =>
oF (Qj .sl j σ) fun j =>
pF a.2 9 fun k =>
oF (Qj .sl k σ) fun k =>
oF (QI 1 (List.replicate 10 (nI 0)) [(0,b),(1,c),(2,d),(3,e),(4,f),(5,g),(6,h),(7,i),(8,j),(9,k)]) fun b =>
oF (Qj .sl (.list .full b) σ) fun c =>
QC [(48,(.list .full b)),(49,c),(50,nI 0),(1,a.2)] fun a =>
Lfp σ (fun b c d =>
bF .lss (c 50) (c 49) fun e =>
Q3 e (
oF (Q5 1 (c 48) (c 50)) fun e =>
oF (Q4 false 1 e d) fun e =>
bF .gtr e (nI 16384) fun e =>
Q3 e (
wkR σ (nI 3) d R) (
bF .add (c 50) (nI 1) fun e =>
kF [(48,c 48),(49,c 49),(50,e),(1,c 1)] b d)) (
pF (c 1) 0 fun b =>
Q0 W 104 [b,(.func 105 0 [])] d (fun b d =>
gF b false (fun e =>
pF (c 1) 3 fun f =>
Q0 W 106 [f,(.func 107 0 [])] d (fun g h =>
e (Q9 [(62,(.loc 1 0)),(63,(.loc 1 3)),(64,(.v f)),(65,(.v g))]) h) (pNR R)) d (fun d e =>
oF (Qc b (.bool true) (d 65).pv) fun b =>
gF b false (fun d =>
pF (c 1) 7 fun f =>
Q0 W 108 [f,(.func 109 0 [])] e (fun g h =>
d (Q9 [(68,(.loc 1 0)),(69,(.loc 1 7)),(70,(.v f)),(71,(.v g))]) h) (pNR R)) e (fun d e =>
oF (Qc b (.bool true) (d 71).pv) fun b =>
pF (c 1) 1 fun d =>
pF (c 1) 5 fun f =>
pF (c 1) 6 fun c =>
oF (QI 1 (List.replicate 3 nL) [(0,d),(1,f),(2,c)]) fun c =>
oF (Qj .sl (.list .full c) e) fun d =>
QC [(5,b),(82,(.list .full c)),(83,d),(84,nI 0)] fun b =>
Lfp σ (fun c d f =>
bF .lss (d 84) (d 83) fun g =>
Q3 g (
oF (Q5 1 (d 82) (d 84)) fun g =>
oF (Q4 false 1 g f) fun g =>
gF (d 5) false (fun h =>
Q0 W 110 [g,(.func 111 0 [])] f (fun i j =>
h (Q9 [(90,(.v g)),(91,(.v i))]) j) (pNR R)) f (fun g h =>
oF (Qc (d 5) (.bool true) (g 91).pv) fun g =>
bF .add (d 84) (nI 1) fun i =>
kF [(5,g),(82,d 82),(83,d 83),(84,i)] c h)) (
Q3 (d 5) (
wkR σ (nI 3) f R) (
wkR σ (nI 0) f R))) b e))) (pNR R))) a σ
theorem Dh (W : Q8) (a0 : PV) (σ : St) (R : Res → St → Prop) : Qn (Qq W) Tryz.prog QO 58 [a0] σ R = qH Tryz.prog W a0 σ R := by kernel_rfl
def xu (Pr : Program) (W : Q8) (a0 : PV) (σ : St) (R : Res → St → Prop) : Prop :=
oF (opC.vBoxAny a0) fun a =>
pF a.2 0 fun b =>
oF (Qj .sl b σ) fun c =>
QC [(9,b),(10,c),(11,nI 0),(1,a.2)] fun a =>
Lfp σ (fun b c d =>
bF .lss (c 11) (c 10) fun e =>
Q3 e (
oF (Q5 1 (c 9) (c 11)) fun e =>
oF (Q4 true 1 e d) fun e =>
uF (.agg [nL]) 0 e fun e =>
pF e 0 fun e =>
oF (Qj .sl e d) fun f =>
QC [(9,c 9),(10,c 10),(11,c 11),(16,e),(17,f),(18,nI 0),(1,c 1)] fun c =>
Lfp σ (fun e f g =>
bF .lss (f 18) (f 17) fun h =>
Q3 h (
oF (Q5 5 (f 16) (f 18)) fun h =>
oF (Q4 true 5 h g) fun h =>
oF (Qv 5 (.agg [(nI 0),(nI 0),(nI 0),(nI 0),(.bool false)]) 0 h) fun h =>
oF (Q6 true 12 (f 1) 0) fun i =>
oF (Q6 true 5 h 0) fun h =>
Q0 W 112 [i,h] g (fun h i =>
oF (vUn .not h) fun h =>
Q3 h (
wkR σ (nI 13) i R) (
bF .add (f 18) (nI 1) fun h =>
kF [(9,f 9),(10,f 10),(11,f 11),(16,f 16),(17,f 17),(18,h),(1,f 1)] e i)) (pNR R)) (
bF .add (f 11) (nI 1) fun e =>
kF [(9,f 9),(10,f 10),(11,e),(1,f 1)] b g)) c d) (
wkR σ (nI 0) d R)) a σ
theorem Dl (W : Q8) (a0 : PV) (σ : St) (R : Res → St → Prop) : Qn (Qq W) Tryz.prog QO 59 [a0] σ R = xu Tryz.prog W a0 σ R := by kernel_rfl
def xO (Pr : Program) (W : Q8) (a0 : PV) (σ : St) (R : Res → St → Prop) : Prop :=
oF (opC.vBoxAny a0) fun a =>
if 0 < a.1 then Pf a.1 a.2 σ fun a b =>
oF (Qh 0 a) fun c =>
oF (Qh 1 c) fun c =>
oF (Q4 false 1 c b) fun c =>
oF (Qj .sl c b) fun d =>
QC [(1,a),(9,c),(10,d),(11,nI 0)] fun a =>
Lfp σ (fun c d e =>
bF .lss (d 11) (d 10) fun f =>
Q3 f (
oF (Q5 1 (d 9) (d 11)) fun f =>
oF (Q4 false 1 f e) fun f =>
Q0 W 113 [f,(.func 114 0 [(d 1)])] e (fun f g =>
Q3 f (
wkR σ (nI 11) g R) (
bF .add (d 11) (nI 1) fun f =>
kF [(1,d 1),(9,d 9),(10,d 10),(11,f)] c g)) (pNR R)) (
oF (Qh 0 (d 1)) fun c =>
oF (Qh 2 c) fun c =>
oF (Q4 false 1 c e) fun c =>
oF (Qj .sl c e) fun f =>
QC [(1,d 1),(21,c),(22,f),(23,nI 0)] fun c =>
Lfp σ (fun d f g =>
bF .lss (f 23) (f 22) fun h =>
Q3 h (
oF (Q5 2 (f 21) (f 23)) fun h =>
oF (Q4 true 2 h g) fun h =>
oF (Qv 2 (.agg [(nI 0),(nI 0)]) 0 h) fun h =>
pF h 0 fun i =>
oF (Qh 0 (f 1)) fun j =>
oF (Qh 0 j) fun j =>
oF (Q4 false 1 j g) fun j =>
oF (Qj .sl j g) fun j =>
Q0 W 42 [i,j] g (fun i j =>
oF (vUn .not i) fun i =>
gF i false (fun k =>
pF h 1 fun h =>
oF (Qh 0 (f 1)) fun l =>
oF (Qh 0 l) fun m =>
oF (Q4 false 1 m j) fun n =>
oF (Qj .sl n j) fun o =>
Q0 W 42 [h,o] j (fun p q =>
oF (vUn .not p) fun r =>
k (Q9 [(36,(.loc 6 1)),(37,(.v h)),(38,(.v l)),(39,(.v m)),(40,(.v n)),(41,(.v o)),(42,(.v p)),(43,(.v r))]) q) (pNR R)) j (fun h j =>
oF (Qc i (.bool true) (h 43).pv) fun h =>
Q3 h (
wkR σ (nI 11) j R) (
bF .add (f 23) (nI 1) fun h =>
kF [(1,f 1),(21,f 21),(22,f 22),(23,h)] d j))) (pNR R)) (
oF (Qh 0 (f 1)) fun d =>
oF (Qh 1 d) fun d =>
oF (Q4 false 1 d g) fun d =>
Q0 W 110 [d,(.func 115 0 [])] g (fun d f =>
Q3 d (
wkR σ (nI 12) f R) (
wkR σ (nI 0) f R)) (pNR R))) c e)) a b else False
theorem Ck (W : Q8) (a0 : PV) (σ : St) (R : Res → St → Prop) : Qn (Qq W) Tryz.prog QO 60 [a0] σ R = xO Tryz.prog W a0 σ R := by kernel_rfl
def qs (Pr : Program) (W : Q8) (a0 : PV) (σ : St) (R : Res → St → Prop) : Prop :=
oF (opC.vBoxAny a0) fun a =>
pF a.2 3 fun b =>
oF (Qj .sl b σ) fun b =>
bF .eql b (nI 0) fun b =>
Q3 b (
wkR σ (nI 12) σ R) (
pF a.2 3 fun b =>
oF (Qj .sl b σ) fun b =>
QC [(13,b),(14,nI 0),(1,a.2)] fun a =>
Lfp σ (fun b c d =>
bF .lss (c 14) (c 13) fun e =>
Q3 e (
oF (Q6 true 12 (c 1) 0) fun e =>
Q0 W 116 [e,(c 14)] d (fun e f =>
bF .neq e (nI 0) fun g =>
Q3 g (
wkR σ e f R) (
bF .add (c 14) (nI 1) fun e =>
kF [(13,c 13),(14,e),(1,c 1)] b f)) (pNR R)) (
wkR σ (nI 0) d R)) a σ)
theorem Dn (W : Q8) (a0 : PV) (σ : St) (R : Res → St → Prop) : Qn (Qq W) Tryz.prog QO 61 [a0] σ R = qs Tryz.prog W a0 σ R := by kernel_rfl
def um (Pr : Program) (W : Q8) (a0 : PV) (σ : St) (R : Res → St → Prop) : Prop :=
oF (opC.vBoxAny a0) fun a =>
pF a.2 8 fun b =>
oF (Qj .sl b σ) fun c =>
QC [(10,b),(11,c),(12,nI 0),(1,a.2)] fun a =>
Lfp σ (fun b c d =>
bF .lss (c 12) (c 11) fun e =>
Q3 e (
oF (Q5 3 (c 10) (c 12)) fun e =>
oF (Q4 true 3 e d) fun e =>
oF (Qv 3 (.agg [(.str []),(.bool false),(nI 0)]) 0 e) fun e =>
pF e 0 fun f =>
bF .eql f (.str []) fun f =>
gF f false (fun g =>
pF e 0 fun h =>
Q0 W 117 [h,(.str [32])] d (fun i j =>
g (Q9 [(20,(.loc 4 0)),(21,(.v h)),(22,(.v i))]) j) (pNR R)) d (fun g h =>
oF (Qc f (.bool true) (g 22).pv) fun f =>
gF f false (fun g =>
pF e 0 fun i =>
bF .add (.str [32]) i fun j =>
bF .add j (.str [32]) fun k =>
Q0 W 117 [(.str [32,112,114,105,110,116,32,114,101,97,100,32,112,114,105,110,116,102,32,114,101,97,100,102,32,112,117,116,98,105,110,32,103,101,116,98,105,110,32]),k] h (fun l m =>
oF (vUn .not l) fun n =>
g (Q9 [(25,(.loc 4 0)),(26,(.v i)),(27,(.v j)),(28,(.v k)),(29,(.v l)),(30,(.v n))]) m) (pNR R)) h (fun g h =>
oF (Qc f (.bool true) (g 30).pv) fun f =>
gF f false (fun g =>
pF e 2 fun e =>
pF (c 1) 0 fun i =>
oF (Qj .sl i h) fun j =>
Q0 W 42 [e,j] h (fun k l =>
oF (vUn .not k) fun m =>
g (Q9 [(33,(.loc 4 2)),(34,(.v e)),(35,(.loc 1 0)),(36,(.loc 1 0)),(37,(.v i)),(38,(.v j)),(39,(.v k)),(40,(.v m))]) l) (pNR R)) h (fun e g =>
oF (Qc f (.bool true) (e 40).pv) fun e =>
Q3 e (
wkR σ (nI 11) g R) (
bF .add (c 12) (nI 1) fun e =>
kF [(10,c 10),(11,c 11),(12,e),(1,c 1)] b g))))) (
pF (c 1) 9 fun b =>
oF (Qj .sl b d) fun e =>
QC [(5,(nI (-1))),(45,b),(46,e),(47,nI 0),(1,c 1)] fun b =>
Lfp σ (fun c e f =>
bF .lss (e 47) (e 46) fun g =>
Q3 g (
oF (Q5 2 (e 45) (e 47)) fun g =>
oF (Q4 true 2 g f) fun g =>
oF (Qv 2 (.agg [(nI 0),(nI 0)]) 0 g) fun g =>
pF g 0 fun h =>
bF .leq h (e 5) fun h =>
gF h false (fun i =>
pF g 0 fun j =>
pF (e 1) 4 fun k =>
oF (Qj .sl k f) fun l =>
bF .geq j l fun m =>
i (Q9 [(56,(.loc 7 0)),(57,(.v j)),(58,(.loc 1 0)),(59,(.loc 1 4)),(60,(.v k)),(61,(.v l)),(62,(.v m))]) f) f (fun i j =>
oF (Qc h (.bool true) (i 62).pv) fun h =>
Q3 h (
wkR σ (nI 10) j R) (
pF g 0 fun g =>
bF .add (e 47) (nI 1) fun h =>
kF [(5,g),(45,e 45),(46,e 46),(47,h),(1,e 1)] c j))) (
wkR σ (nI 0) f R)) b d)) a σ
theorem C5 (W : Q8) (a0 : PV) (σ : St) (R : Res → St → Prop) : Qn (Qq W) Tryz.prog QO 62 [a0] σ R = um Tryz.prog W a0 σ R := by kernel_rfl
def qR (Pr : Program) (W : Q8) (a0 : PV) (σ : St) (R : Res → St → Prop) : Prop :=
oF (opC.vBoxAny a0) fun a =>
pF a.2 4 fun b =>
oF (Qj .sl b σ) fun b =>
bF .gtr b (nI 16384) fun b =>
gF b false (fun c =>
pF a.2 0 fun d =>
oF (Qj .sl d σ) fun e =>
bF .gtr e (nI 16384) fun f =>
c (Q9 [(11,(.loc 1 0)),(12,(.v d)),(13,(.v e)),(14,(.v f))]) σ) σ (fun c d =>
oF (Qc b (.bool true) (c 14).pv) fun b =>
gF b false (fun c =>
pF a.2 2 fun e =>
oF (Qj .sl e d) fun f =>
bF .gtr f (nI 16384) fun g =>
c (Q9 [(17,(.loc 1 2)),(18,(.v e)),(19,(.v f)),(20,(.v g))]) d) d (fun c d =>
oF (Qc b (.bool true) (c 20).pv) fun b =>
gF b false (fun c =>
pF a.2 3 fun e =>
oF (Qj .sl e d) fun f =>
bF .gtr f (nI 16384) fun g =>
c (Q9 [(23,(.loc 1 3)),(24,(.v e)),(25,(.v f)),(26,(.v g))]) d) d (fun c d =>
oF (Qc b (.bool true) (c 26).pv) fun b =>
gF b false (fun c =>
pF a.2 7 fun e =>
oF (Qj .sl e d) fun f =>
bF .gtr f (nI 16384) fun g =>
c (Q9 [(29,(.loc 1 7)),(30,(.v e)),(31,(.v f)),(32,(.v g))]) d) d (fun c d =>
oF (Qc b (.bool true) (c 32).pv) fun b =>
gF b false (fun c =>
pF a.2 8 fun e =>
oF (Qj .sl e d) fun f =>
bF .gtr f (nI 16384) fun g =>
c (Q9 [(35,(.loc 1 8)),(36,(.v e)),(37,(.v f)),(38,(.v g))]) d) d (fun c d =>
oF (Qc b (.bool true) (c 38).pv) fun b =>
gF b false (fun c =>
pF a.2 9 fun e =>
oF (Qj .sl e d) fun f =>
bF .gtr f (nI 16384) fun g =>
c (Q9 [(41,(.loc 1 9)),(42,(.v e)),(43,(.v f)),(44,(.v g))]) d) d (fun c d =>
oF (Qc b (.bool true) (c 44).pv) fun b =>
gF b false (fun c =>
pF a.2 1 fun e =>
Q0 W 122 [e] d (fun f g =>
c (Q9 [(47,(.loc 1 1)),(48,(.v e)),(49,(.v f))]) g) (pNR R)) d (fun c d =>
oF (Qc b (.bool true) (c 49).pv) fun b =>
gF b false (fun c =>
pF a.2 5 fun e =>
Q0 W 122 [e] d (fun f g =>
c (Q9 [(52,(.loc 1 5)),(53,(.v e)),(54,(.v f))]) g) (pNR R)) d (fun c d =>
oF (Qc b (.bool true) (c 54).pv) fun b =>
gF b false (fun c =>
pF a.2 6 fun e =>
Q0 W 122 [e] d (fun f g =>
c (Q9 [(57,(.loc 1 6)),(58,(.v e)),(59,(.v f))]) g) (pNR R)) d (fun c d =>
oF (Qc b (.bool true) (c 59).pv) fun b =>
Q3 b (
wkR σ (.bool false) d R) (
X6 σ (fun b =>
QC [(3,nI 0),(1,a.2)] fun a =>
Lfp σ (fun c e f =>
pF (e 1) 0 fun g =>
oF (Qj .sl g f) fun g =>
bF .lss (e 3) g fun g =>
Q3 g (
pF (e 1) 0 fun g =>
oF (Q5 1 g (e 3)) fun g =>
oF (Qh 0 g) fun g =>
oF (Q4 false 1 g f) fun g =>
oF (Qj .sl g f) fun g =>
bF .gtr g (nI 1000) fun g =>
Q3 g (
wkR σ (.bool false) f R) (
bF .add (e 3) (nI 1) fun g =>
kF [(3,g),(1,e 1)] c f)) (
kF [(1,e 1)] b f)) a d) (fun a b =>
X6 σ (fun c =>
QC [(4,nI 0),(1,a 1)] fun a =>
Lfp σ (fun d e f =>
pF (e 1) 3 fun g =>
oF (Qj .sl g f) fun g =>
bF .lss (e 4) g fun g =>
Q3 g (
pF (e 1) 3 fun g =>
oF (Q5 9 g (e 4)) fun g =>
oF (Qh 8 g) fun g =>
oF (Q4 false 1 g f) fun g =>
oF (Qj .sl g f) fun g =>
bF .gtr g (nI 4000) fun g =>
Q3 g (
wkR σ (.bool false) f R) (
bF .add (e 4) (nI 1) fun g =>
kF [(4,g),(1,e 1)] d f)) (
kF [(1,e 1)] c f)) a b) (fun a b =>
X6 σ (fun c =>
QC [(5,nI 0),(1,a 1)] fun a =>
Lfp σ (fun d e f =>
pF (e 1) 7 fun g =>
oF (Qj .sl g f) fun g =>
bF .lss (e 5) g fun g =>
Q3 g (
pF (e 1) 7 fun g =>
oF (Q5 1 g (e 5)) fun g =>
oF (Q4 false 1 g f) fun g =>
oF (Qj .str g f) fun g =>
bF .gtr g (nI 65536) fun g =>
Q3 g (
wkR σ (.bool false) f R) (
bF .add (e 5) (nI 1) fun g =>
kF [(5,g),(1,e 1)] d f)) (
kF [] c f)) a b) (fun a a =>
wkR σ (.bool true) a R)))))))))))))
theorem DF (W : Q8) (a0 : PV) (σ : St) (R : Res → St → Prop) : Qn (Qq W) Tryz.prog QO 64 [a0] σ R = qR Tryz.prog W a0 σ R := by kernel_rfl
def zj (Pr : Program) (W : Q8) (a0 : PV) (σ : St) (R : Res → St → Prop) : Prop :=
oF (opC.vBoxAny a0) fun a =>
X6 σ (fun b =>
QC [(3,nI 0),(1,a.2)] fun a =>
Lfp σ (fun c d e =>
pF (d 1) 0 fun f =>
oF (Qj .sl f e) fun f =>
bF .lss (d 3) f fun f =>
Q3 f (
X6 σ (fun f =>
QC [(3,d 3),(4,nI 0),(1,d 1)] fun g =>
Lfp σ (fun h i j =>
pF (i 1) 0 fun k =>
oF (Q5 1 k (i 3)) fun k =>
oF (Qh 0 k) fun k =>
oF (Q4 false 1 k j) fun k =>
oF (Qj .sl k j) fun k =>
bF .lss (i 4) k fun k =>
Q3 k (
oF (Q6 true 10 (i 1) 0) fun k =>
pF (i 1) 0 fun l =>
oF (Q5 1 l (i 3)) fun l =>
oF (Qh 0 l) fun l =>
oF (Q4 false 1 l j) fun l =>
oF (Q5 5 l (i 4)) fun l =>
oF (Q4 true 5 l j) fun l =>
Q0 W 123 [k,l] j (fun k l =>
oF (vUn .not k) fun k =>
Q3 k (
wkR σ (nI 13) l R) (
bF .add (i 4) (nI 1) fun k =>
kF [(3,i 3),(4,k),(1,i 1)] h l)) (pNR R)) (
kF [(3,i 3),(1,i 1)] f j)) g e) (fun f g =>
bF .add (f 3) (nI 1) fun h =>
kF [(3,h),(1,f 1)] c g)) (
kF [(1,d 1)] b e)) a σ) (fun a b =>
X6 σ (fun c =>
QC [(5,nI 0),(1,a 1)] fun a =>
Lfp σ (fun d e f =>
pF (e 1) 1 fun g =>
oF (Qj .sl g f) fun g =>
bF .lss (e 5) g fun g =>
Q3 g (
X6 σ (fun g =>
QC [(5,e 5),(6,nI 0),(1,e 1)] fun h =>
Lfp σ (fun i j k =>
pF (j 1) 1 fun l =>
oF (Q5 1 l (j 5)) fun l =>
oF (Q4 false 1 l k) fun l =>
oF (Qj .sl l k) fun l =>
bF .lss (j 6) l fun l =>
Q3 l (
pF (j 1) 1 fun l =>
oF (Q5 1 l (j 5)) fun l =>
oF (Q4 false 1 l k) fun l =>
oF (Q5 1 l (j 6)) fun l =>
oF (Q4 false 1 l k) fun l =>
pF (j 1) 0 fun m =>
oF (Qj .sl m k) fun m =>
Q0 W 75 [l,m] k (fun l m =>
oF (vUn .not l) fun l =>
Q3 l (
wkR σ (nI 11) m R) (
bF .add (j 6) (nI 1) fun l =>
kF [(5,j 5),(6,l),(1,j 1)] i m)) (pNR R)) (
kF [(5,j 5),(1,j 1)] g k)) h f) (fun g h =>
bF .add (g 5) (nI 1) fun i =>
kF [(5,i),(1,g 1)] d h)) (
kF [(1,e 1)] c f)) a b) (fun a b =>
X6 σ (fun c =>
QC [(7,nI 0),(1,a 1)] fun a =>
Lfp σ (fun d e f =>
pF (e 1) 2 fun g =>
oF (Qj .sl g f) fun g =>
bF .lss (e 7) g fun g =>
Q3 g (
pF (e 1) 2 fun g =>
oF (Q5 2 g (e 7)) fun g =>
oF (Qh 0 g) fun g =>
oF (Q4 false 1 g f) fun g =>
pF (e 1) 0 fun h =>
oF (Qj .sl h f) fun h =>
Q0 W 75 [g,h] f (fun g h =>
oF (vUn .not g) fun g =>
gF g false (fun i =>
pF (e 1) 2 fun j =>
oF (Q5 2 j (e 7)) fun k =>
oF (Qh 1 k) fun l =>
oF (Q4 false 1 l h) fun m =>
pF (e 1) 0 fun n =>
oF (Qj .sl n h) fun o =>
Q0 W 75 [m,o] h (fun p q =>
oF (vUn .not p) fun r =>
i (Q9 [(88,(.loc 1 2)),(89,(.v j)),(90,(.v (e 7))),(91,(.v k)),(92,(.v l)),(93,(.v m)),(94,(.loc 1 0)),(95,(.v n)),(96,(.v o)),(97,(.v p)),(98,(.v r))]) q) (pNR R)) h (fun h i =>
oF (Qc g (.bool true) (h 98).pv) fun g =>
Q3 g (
wkR σ (nI 11) i R) (
bF .add (e 7) (nI 1) fun g =>
kF [(7,g),(1,e 1)] d i))) (pNR R)) (
kF [(1,e 1)] c f)) a b) (fun a b =>
X6 σ (fun c =>
QC [(8,nI 0),(1,a 1)] fun a =>
Lfp σ (fun d e f =>
pF (e 1) 1 fun g =>
oF (Qj .sl g f) fun g =>
bF .lss (e 8) g fun g =>
Q3 g (
pF (e 1) 1 fun g =>
oF (Q5 1 g (e 8)) fun g =>
oF (Q4 false 1 g f) fun g =>
oF (Qj .sl g f) fun g =>
bF .eql g (nI 0) fun g =>
Q3 g (
wkR σ (nI 12) f R) (
bF .add (e 8) (nI 1) fun g =>
kF [(8,g),(1,e 1)] d f)) (
kF [] c f)) a b) (fun a a =>
wkR σ (nI 0) a R))))
theorem DT (W : Q8) (a0 : PV) (σ : St) (R : Res → St → Prop) : Qn (Qq W) Tryz.prog QO 65 [a0] σ R = zj Tryz.prog W a0 σ R := by kernel_rfl
def Am (Pr : Program) (W : Q8) (a0 : PV) (σ : St) (R : Res → St → Prop) : Prop :=
oF (opC.vBoxAny a0) fun a =>
X6 σ (fun b =>
QC [(3,nI 0),(1,a.2)] fun a =>
Lfp σ (fun c d e =>
pF (d 1) 8 fun f =>
oF (Qj .sl f e) fun f =>
bF .lss (d 3) f fun f =>
Q3 f (
X6 σ (fun f =>
X6 σ (fun g =>
QC [(3,d 3),(4,(.bool false)),(5,nI 0),(1,d 1)] fun h =>
Lfp σ (fun i j k =>
Q0 W 126 [] k (fun k l =>
oF (Qj .sl k l) fun k =>
bF .lss (j 5) k fun k =>
Q3 k (
gF (j 4) false (fun k =>
pF (j 1) 8 fun m =>
oF (Q5 3 m (j 3)) fun n =>
oF (Qh 0 n) fun o =>
oF (Q4 false 1 o l) fun p =>
IN W 126 [] l fun q _ =>
oF (Q5 1 q (j 5)) fun r =>
oF (Q4 false 1 r l) fun s =>
bF .eql p s fun t =>
k (Q9 [(22,(.loc 1 8)),(23,(.v m)),(24,(.v (j 3))),(25,(.v n)),(26,(.v o)),(27,(.v p)),(29,(.v (j 5))),(28,(.v q)),(30,(.v r)),(31,(.v s)),(32,(.v t))]) l) l (fun k m =>
oF (Qc (j 4) (.bool true) (k 32).pv) fun k =>
bF .add (j 5) (nI 1) fun n =>
kF [(3,j 3),(4,k),(5,n),(1,j 1)] i m)) (
kF [(3,j 3),(4,j 4),(1,j 1)] g l)) (pNR R)) h e) (fun g h =>
oF (vUn .not (g 4)) fun i =>
gF i false (fun j =>
pF (g 1) 8 fun k =>
oF (Q5 3 k (g 3)) fun l =>
oF (Qh 2 l) fun m =>
oF (Q4 false 1 m h) fun n =>
pF (g 1) 0 fun o =>
oF (Qj .sl o h) fun p =>
Q0 W 75 [n,p] h (fun q r =>
oF (vUn .not q) fun s =>
j (Q9 [(37,(.loc 1 8)),(38,(.v k)),(39,(.v (g 3))),(40,(.v l)),(41,(.v m)),(42,(.v n)),(43,(.loc 1 0)),(44,(.v o)),(45,(.v p)),(46,(.v q)),(47,(.v s))]) r) (pNR R)) h (fun h j =>
oF (Qc i (.bool true) (h 47).pv) fun h =>
Q3 h (
wkR σ (nI 11) j R) (
kF [(3,g 3),(1,g 1)] f j)))) (fun f g =>
bF .add (f 3) (nI 1) fun h =>
kF [(3,h),(1,f 1)] c g)) (
kF [(1,d 1)] b e)) a σ) (fun a b =>
X6 σ (fun c =>
QC [(6,nI 0),(1,a 1)] fun a =>
Lfp σ (fun d e f =>
pF (e 1) 9 fun g =>
oF (Qj .sl g f) fun g =>
bF .lss (e 6) g fun g =>
Q3 g (
pF (e 1) 9 fun g =>
oF (Q5 2 g (e 6)) fun g =>
oF (Qh 0 g) fun g =>
oF (Q4 false 1 g f) fun g =>
pF (e 1) 4 fun h =>
oF (Qj .sl h f) fun h =>
Q0 W 75 [g,h] f (fun g h =>
oF (vUn .not g) fun g =>
gF g false (fun i =>
bF .gtr (e 6) (nI 0) fun j =>
i (Q9 [(68,(.v (e 6))),(69,(.v j)),(70,(.v j))]) h) h (fun h i =>
gF (h 70).pv true (fun j =>
pF (e 1) 9 fun k =>
oF (Q5 2 k (e 6)) fun l =>
oF (Qh 0 l) fun m =>
oF (Q4 false 1 m i) fun n =>
pF (e 1) 9 fun o =>
bF .sub (e 6) (nI 1) fun p =>
oF (Q5 2 o p) fun q =>
oF (Qh 0 q) fun r =>
oF (Q4 false 1 r i) fun s =>
bF .leq n s fun t =>
j (Q9 [(71,(.loc 1 9)),(72,(.v k)),(73,(.v (e 6))),(74,(.v l)),(75,(.v m)),(76,(.v n)),(77,(.loc 1 9)),(78,(.v o)),(79,(.v (e 6))),(80,(.v p)),(81,(.v q)),(82,(.v r)),(83,(.v s)),(84,(.v t))]) i) i (fun i j =>
gF g false (fun k =>
oF (Qc (h 70).pv (i 84).pv (.bool false)) fun h =>
k (Q9 [(85,(.v h))]) j) j (fun h i =>
oF (Qc g (.bool true) (h 85).pv) fun g =>
Q3 g (
wkR σ (nI 10) i R) (
bF .add (e 6) (nI 1) fun g =>
kF [(6,g),(1,e 1)] d i))))) (pNR R)) (
kF [] c f)) a b) (fun a a =>
wkR σ (nI 0) a R))
theorem C9 (W : Q8) (a0 : PV) (σ : St) (R : Res → St → Prop) : Qn (Qq W) Tryz.prog QO 67 [a0] σ R = Am Tryz.prog W a0 σ R := by kernel_rfl
def AL (Pr : Program) (W : Q8) (a0 a1 : PV) (σ : St) (R : Res → St → Prop) : Prop :=
bF .geq a0 (nI 0) fun a =>
gF a true (fun b =>
bF .lss a0 a1 fun c =>
b (Q9 [(8,(.v a0)),(9,(.v a1)),(10,(.v c))]) σ) σ (fun b c =>
oF (Qc a (b 10).pv (.bool false)) fun a =>
wkR σ a c R)
theorem Dx (W : Q8) (a0 a1 : PV) (σ : St) (R : Res → St → Prop) : Qn (Qq W) Tryz.prog QO 75 [a0,a1] σ R = AL Tryz.prog W a0 a1 σ R := by kernel_rfl
def Bt (Pr : Program) (W : Q8) (a0 : PV) (σ : St) (R : Res → St → Prop) : Prop :=
oF (opC.vBoxAny a0) fun a =>
pF a.2 0 fun a =>
oF (Qj .sl a σ) fun a =>
bF .gtr a (nI 1000) fun a =>
wkR σ a σ R
theorem F6 (W : Q8) (a0 : PV) (σ : St) (R : Res → St → Prop) : Qn (Qq W) Tryz.prog QO 105 [a0] σ R = Bt Tryz.prog W a0 σ R := by kernel_rfl
def BF (Pr : Program) (W : Q8) (a0 : PV) (σ : St) (R : Res → St → Prop) : Prop :=
oF (opC.vBoxAny a0) fun a =>
pF a.2 8 fun a =>
oF (Qj .sl a σ) fun a =>
bF .gtr a (nI 4000) fun a =>
wkR σ a σ R
theorem GK (W : Q8) (a0 : PV) (σ : St) (R : Res → St → Prop) : Qn (Qq W) Tryz.prog QO 107 [a0] σ R = BF Tryz.prog W a0 σ R := by kernel_rfl
def BA (Pr : Program) (W : Q8) (a0 : PV) (σ : St) (R : Res → St → Prop) : Prop :=
oF (Qj .str a0 σ) fun a =>
bF .gtr a (nI 65536) fun a =>
wkR σ a σ R
theorem GG (W : Q8) (a0 : PV) (σ : St) (R : Res → St → Prop) : Qn (Qq W) Tryz.prog QO 109 [a0] σ R = BA Tryz.prog W a0 σ R := by kernel_rfl
def Cx (Pr : Program) (W : Q8) (a0 : PV) (σ : St) (R : Res → St → Prop) : Prop :=
oF (Qj .sl a0 σ) fun a =>
bF .gtr a (nI 4000) fun a =>
wkR σ a σ R
theorem Eh (W : Q8) (a0 : PV) (σ : St) (R : Res → St → Prop) : Qn (Qq W) Tryz.prog QO 111 [a0] σ R = Cx Tryz.prog W a0 σ R := by kernel_rfl
def BD (Pr : Program) (W : Q8) (a0 a1 : PV) (σ : St) (R : Res → St → Prop) : Prop :=
oF (opC.vBoxAny a0) fun a =>
oF (opC.vBoxAny a1) fun b =>
pF b.2 0 fun c =>
bF .eql c (nI 2) fun c =>
gF c false (fun d =>
pF b.2 0 fun e =>
bF .eql e (nI 3) fun f =>
d (Q9 [(14,(.loc 3 0)),(15,(.v e)),(16,(.v f))]) σ) σ (fun d e =>
oF (Qc c (.bool true) (d 16).pv) fun c =>
gF c false (fun d =>
pF b.2 0 fun f =>
bF .eql f (nI 4) fun g =>
d (Q9 [(19,(.loc 3 0)),(20,(.v f)),(21,(.v g))]) e) e (fun d e =>
oF (Qc c (.bool true) (d 21).pv) fun c =>
pF b.2 0 fun d =>
bF .eql d (nI 9) fun d =>
Kf e fun e f =>
pF a.2 0 fun g =>
oF (Qj .sl g f) fun g =>
oF (Zh .int e (nI 8) g f) fun f =>
pF a.2 0 fun g =>
oF (Qj .sl g f) fun g =>
oF (Zh .int e (nI 9) g f) fun f =>
pF a.2 1 fun g =>
oF (Qj .sl g f) fun g =>
oF (Zh .int e (nI 10) g f) fun f =>
pF a.2 2 fun a =>
oF (Qj .sl a f) fun a =>
oF (Zh .int e (nI 11) a f) fun a =>
pF b.2 0 fun f =>
oF (Y5 .int (nI 0) true e f a) fun e =>
oF (X0 e 0) fun f =>
oF (X0 e 1) fun e =>
X6 σ (fun g =>
oF (vUn .not e) fun e =>
Q3 e (
kF [(5,c),(6,d),(8,nI 1),(3,b.2)] g a) (
kF [(5,c),(6,d),(8,f),(3,b.2)] g a)) (fun a b =>
pF (a 3) 0 fun c =>
bF .geq c (nI 0) fun c =>
gF c true (fun d =>
pF (a 3) 0 fun e =>
bF .lss e (nI 12) fun f =>
d (Q9 [(57,(.loc 3 0)),(58,(.v e)),(59,(.v f))]) b) b (fun b d =>
oF (Qc c (b 59).pv (.bool false)) fun b =>
gF b true (fun c =>
pF (a 3) 1 fun e =>
bF .eql e (nI 0) fun f =>
c (Q9 [(62,(.loc 3 1)),(63,(.v e)),(64,(.v f)),(65,(.v f))]) d) d (fun c d =>
gF (c 65).pv false (fun e =>
e (Q9 [(66,(.v (a 5))),(67,(.v (a 5)))]) d) d (fun d e =>
gF (d 67).pv true (fun f =>
pF (a 3) 1 fun g =>
bF .geq g (nI (-1)) fun h =>
f (Q9 [(68,(.loc 3 1)),(69,(.v g)),(70,(.v h))]) e) e (fun e f =>
gF (c 65).pv false (fun g =>
oF (Qc (d 67).pv (e 70).pv (.bool false)) fun d =>
g (Q9 [(71,(.v d)),(72,(.v d))]) f) f (fun d e =>
gF (d 72).pv true (fun f =>
pF (a 3) 1 fun g =>
bF .leq g (nI 1) fun h =>
f (Q9 [(73,(.loc 3 1)),(74,(.v g)),(75,(.v h))]) e) e (fun e f =>
gF (c 65).pv false (fun g =>
oF (Qc (d 72).pv (e 75).pv (.bool false)) fun d =>
g (Q9 [(76,(.v d))]) f) f (fun d e =>
gF b true (fun f =>
oF (Qc (c 65).pv (.bool true) (d 76).pv) fun c =>
f (Q9 [(77,(.v c))]) e) e (fun c d =>
oF (Qc b (c 77).pv (.bool false)) fun b =>
gF b true (fun c =>
c (Q9 [(80,(.v (a 6))),(81,(.v (a 6)))]) d) d (fun c d =>
gF (c 81).pv true (fun e =>
pF (a 3) 3 fun f =>
bF .geq f (nI 1) fun g =>
e (Q9 [(82,(.loc 3 3)),(83,(.v f)),(84,(.v g))]) d) d (fun d e =>
gF b true (fun f =>
oF (Qc (c 81).pv (d 84).pv (.bool false)) fun c =>
f (Q9 [(85,(.v c)),(86,(.v c))]) e) e (fun c d =>
gF (c 86).pv true (fun e =>
pF (a 3) 3 fun f =>
bF .leq f (nI 3) fun g =>
e (Q9 [(87,(.loc 3 3)),(88,(.v f)),(89,(.v g))]) d) d (fun d e =>
gF b true (fun f =>
oF (Qc (c 86).pv (d 89).pv (.bool false)) fun c =>
f (Q9 [(90,(.v c)),(91,(.v c))]) e) e (fun c d =>
gF (c 91).pv false (fun e =>
oF (vUn .not (a 6)) fun f =>
e (Q9 [(92,(.v (a 6))),(93,(.v f)),(94,(.v f))]) d) d (fun d e =>
gF (d 94).pv true (fun f =>
pF (a 3) 3 fun g =>
bF .eql g (nI 0) fun h =>
f (Q9 [(95,(.loc 3 3)),(96,(.v g)),(97,(.v h))]) e) e (fun e f =>
gF (c 91).pv false (fun g =>
oF (Qc (d 94).pv (e 97).pv (.bool false)) fun d =>
g (Q9 [(98,(.v d)),(99,(.v d))]) f) f (fun d e =>
gF (d 99).pv true (fun f =>
pF (a 3) 4 fun g =>
oF (vUn .not g) fun h =>
f (Q9 [(100,(.loc 3 4)),(101,(.v g)),(102,(.v h))]) e) e (fun e f =>
gF (c 91).pv false (fun g =>
oF (Qc (d 99).pv (e 102).pv (.bool false)) fun d =>
g (Q9 [(103,(.v d))]) f) f (fun d e =>
gF b true (fun f =>
oF (Qc (c 91).pv (.bool true) (d 103).pv) fun c =>
f (Q9 [(104,(.v c))]) e) e (fun c d =>
oF (Qc b (c 104).pv (.bool false)) fun b =>
gF b true (fun c =>
pF (a 3) 2 fun e =>
Q0 W 42 [e,(a 8)] d (fun f g =>
c (Q9 [(107,(.loc 3 2)),(108,(.v e)),(109,(.v (a 8))),(110,(.v f))]) g) (pNR R)) d (fun a c =>
oF (Qc b (a 110).pv (.bool false)) fun a =>
wkR σ a c R)))))))))))))))))))))))
theorem GC (W : Q8) (a0 a1 : PV) (σ : St) (R : Res → St → Prop) : Qn (Qq W) Tryz.prog QO 112 [a0,a1] σ R = BD Tryz.prog W a0 a1 σ R := by kernel_rfl
def Cz (Pr : Program) (W : Q8) (a0 a1 : PV) (σ : St) (R : Res → St → Prop) : Prop :=
oF (Qh 0 a1) fun a =>
oF (Qh 0 a) fun a =>
oF (Q4 false 1 a σ) fun a =>
oF (Qj .sl a σ) fun a =>
Q0 W 42 [a0,a] σ (fun a b =>
oF (vUn .not a) fun a =>
wkR σ a b R) (pNR R)
theorem FE (W : Q8) (a0 a1 : PV) (σ : St) (R : Res → St → Prop) : Qn (Qq W) Tryz.prog QO 114 [a0,a1] σ R = Cz Tryz.prog W a0 a1 σ R := by kernel_rfl
def Bi (Pr : Program) (W : Q8) (a0 : PV) (σ : St) (R : Res → St → Prop) : Prop :=
oF (Qj .sl a0 σ) fun a =>
bF .eql a (nI 0) fun a =>
wkR σ a σ R
theorem Er (W : Q8) (a0 : PV) (σ : St) (R : Res → St → Prop) : Qn (Qq W) Tryz.prog QO 115 [a0] σ R = Bi Tryz.prog W a0 σ R := by kernel_rfl
def BC (Pr : Program) (W : Q8) (a0 : PV) (σ : St) (R : Res → St → Prop) : Prop :=
X6 σ (fun a =>
QC [(0,a0),(3,nI 0)] fun b =>
Lfp σ (fun c d e =>
oF (Qj .sl (d 0) e) fun f =>
bF .lss (d 3) f fun f =>
Q3 f (
oF (Q5 1 (d 0) (d 3)) fun f =>
oF (Q4 false 1 f e) fun f =>
oF (Qj .sl f e) fun f =>
bF .gtr f (nI 4000) fun f =>
Q3 f (
wkR σ (.bool true) e R) (
bF .add (d 3) (nI 1) fun f =>
kF [(0,d 0),(3,f)] c e)) (
kF [(0,d 0)] a e)) b σ) (fun a b =>
oF (Qj .sl (a 0) b) fun a =>
bF .gtr a (nI 16384) fun a =>
wkR σ a b R)
theorem Gt (W : Q8) (a0 : PV) (σ : St) (R : Res → St → Prop) : Qn (Qq W) Tryz.prog QO 122 [a0] σ R = BC Tryz.prog W a0 σ R := by kernel_rfl
def CG (Pr : Program) (W : Q8) (a0 a1 : PV) (σ : St) (R : Res → St → Prop) : Prop :=
oF (opC.vBoxAny a0) fun a =>
oF (opC.vBoxAny a1) fun b =>
pF b.2 0 fun c =>
bF .eql c (nI 2) fun d =>
gF d false (fun e =>
bF .eql c (nI 3) fun f =>
e (Q9 [(12,(.v c)),(13,(.v f))]) σ) σ (fun e f =>
oF (Qc d (.bool true) (e 13).pv) fun d =>
gF d false (fun e =>
bF .eql c (nI 4) fun g =>
e (Q9 [(16,(.v c)),(17,(.v g))]) f) f (fun e f =>
oF (Qc d (.bool true) (e 17).pv) fun d =>
Q0 W 75 [c,(nI 12)] f (fun e f =>
oF (vUn .not e) fun e =>
gF e false (fun g =>
g (Q9 [(23,(.v d)),(24,(.v d))]) f) f (fun f g =>
gF (f 24).pv true (fun h =>
pF b.2 1 fun i =>
bF .lss i (nI (-1)) fun j =>
h (Q9 [(25,(.loc 3 1)),(26,(.v i)),(27,(.v j)),(28,(.v j))]) g) g (fun g h =>
gF (g 28).pv false (fun i =>
pF b.2 1 fun j =>
bF .gtr j (nI 1) fun k =>
i (Q9 [(29,(.loc 3 1)),(30,(.v j)),(31,(.v k))]) h) h (fun h i =>
gF (f 24).pv true (fun j =>
oF (Qc (g 28).pv (.bool true) (h 31).pv) fun g =>
j (Q9 [(32,(.v g))]) i) i (fun g h =>
gF e false (fun i =>
oF (Qc (f 24).pv (g 32).pv (.bool false)) fun f =>
i (Q9 [(33,(.v f))]) h) h (fun f g =>
oF (Qc e (.bool true) (f 33).pv) fun e =>
gF e false (fun f =>
oF (vUn .not d) fun h =>
f (Q9 [(36,(.v d)),(37,(.v h)),(38,(.v h))]) g) g (fun d f =>
gF (d 38).pv true (fun g =>
pF b.2 1 fun h =>
bF .neq h (nI 0) fun i =>
g (Q9 [(39,(.loc 3 1)),(40,(.v h)),(41,(.v i))]) f) f (fun f g =>
gF e false (fun h =>
oF (Qc (d 38).pv (f 41).pv (.bool false)) fun d =>
h (Q9 [(42,(.v d))]) g) g (fun d f =>
oF (Qc e (.bool true) (d 42).pv) fun d =>
Q3 d (
wkR σ (.bool false) f R) (
bF .eql c (nI 9) fun d =>
gF d true (fun e =>
pF b.2 3 fun g =>
bF .lss g (nI 1) fun h =>
e (Q9 [(47,(.loc 3 3)),(48,(.v g)),(49,(.v h)),(50,(.v h))]) f) f (fun e f =>
gF (e 50).pv false (fun g =>
pF b.2 3 fun h =>
bF .gtr h (nI 3) fun i =>
g (Q9 [(51,(.loc 3 3)),(52,(.v h)),(53,(.v i))]) f) f (fun f g =>
gF d true (fun h =>
oF (Qc (e 50).pv (.bool true) (f 53).pv) fun e =>
h (Q9 [(54,(.v e))]) g) g (fun e f =>
oF (Qc d (e 54).pv (.bool false)) fun d =>
gF d false (fun e =>
bF .neq c (nI 9) fun g =>
e (Q9 [(57,(.v c)),(58,(.v g)),(59,(.v g))]) f) f (fun e f =>
gF (e 59).pv true (fun g =>
pF b.2 3 fun h =>
bF .neq h (nI 0) fun i =>
g (Q9 [(60,(.loc 3 3)),(61,(.v h)),(62,(.v i)),(63,(.v i))]) f) f (fun f g =>
gF (f 63).pv false (fun h =>
pF b.2 4 fun i =>
h (Q9 [(64,(.loc 3 4)),(65,(.v i))]) g) g (fun g h =>
gF (e 59).pv true (fun i =>
oF (Qc (f 63).pv (.bool true) (g 65).pv) fun f =>
i (Q9 [(66,(.v f))]) h) h (fun f g =>
gF d false (fun h =>
oF (Qc (e 59).pv (f 66).pv (.bool false)) fun e =>
h (Q9 [(67,(.v e))]) g) g (fun e f =>
oF (Qc d (.bool true) (e 67).pv) fun d =>
Q3 d (
wkR σ (.bool false) f R) (
X6 σ (fun d =>
bF .eql c (nI 8) fun e =>
Q3 e (
Q3 e (
pF b.2 2 fun e =>
pF a.2 0 fun g =>
oF (Qj .sl g f) fun g =>
Q0 W 75 [e,g] f (fun e g =>
wkR σ e g R) (pNR R)) (
bF .eql c (nI 10) fun e =>
Q3 e (
pF b.2 2 fun e =>
pF a.2 1 fun g =>
oF (Qj .sl g f) fun g =>
Q0 W 75 [e,g] f (fun e g =>
wkR σ e g R) (pNR R)) (
bF .eql c (nI 11) fun e =>
Q3 e (
pF b.2 2 fun e =>
pF a.2 2 fun g =>
oF (Qj .sl g f) fun g =>
Q0 W 75 [e,g] f (fun e g =>
wkR σ e g R) (pNR R)) (
kF [(3,b.2)] d f)))) (
bF .eql c (nI 9) fun e =>
Q3 e (
pF b.2 2 fun e =>
pF a.2 0 fun g =>
oF (Qj .sl g f) fun g =>
Q0 W 75 [e,g] f (fun e g =>
wkR σ e g R) (pNR R)) (
bF .eql c (nI 10) fun e =>
Q3 e (
pF b.2 2 fun e =>
pF a.2 1 fun g =>
oF (Qj .sl g f) fun g =>
Q0 W 75 [e,g] f (fun e g =>
wkR σ e g R) (pNR R)) (
bF .eql c (nI 11) fun c =>
Q3 c (
pF b.2 2 fun c =>
pF a.2 2 fun a =>
oF (Qj .sl a f) fun a =>
Q0 W 75 [c,a] f (fun a c =>
wkR σ a c R) (pNR R)) (
kF [(3,b.2)] d f))))) (fun a b =>
pF (a 3) 2 fun a =>
bF .eql a (nI 0) fun a =>
wkR σ a b R)))))))))))))))))))) (pNR R)))
theorem FC (W : Q8) (a0 a1 : PV) (σ : St) (R : Res → St → Prop) : Qn (Qq W) Tryz.prog QO 123 [a0,a1] σ R = CG Tryz.prog W a0 a1 σ R := by kernel_rfl
def Bn (Pr : Program) (W : Q8) (σ : St) (R : Res → St → Prop) : Prop :=
oF (QI 1 (List.replicate 6 (.str [])) [(0,(.str [112,114,105,110,116])),(1,(.str [114,101,97,100])),(2,(.str [112,114,105,110,116,102])),(3,(.str [114,101,97,100,102])),(4,(.str [112,117,116,98,105,110])),(5,(.str [103,101,116,98,105,110]))]) fun a =>
wkR σ (.list .full a) σ R
theorem GO (W : Q8) (σ : St) (R : Res → St → Prop) : Qn (Qq W) Tryz.prog QO 126 [] σ R = Bn Tryz.prog W  σ R := by kernel_rfl
end Go.Proofs.YtgghfcchanilpaaGreatDoor
