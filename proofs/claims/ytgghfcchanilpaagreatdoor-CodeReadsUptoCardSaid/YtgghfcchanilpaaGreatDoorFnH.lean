import Derived.KernelRfl
import Derived.Test.YtgghfcchanilpaaGreatDoorAnn
import Derived.Test.YtgghfcchanilpaaGreatDoorProg
set_option linter.unusedVariables false
set_option linter.unusedSimpArgs false
namespace Go.Proofs.YtgghfcchanilpaaGreatDoor
open Go Go.Abs
def fn9 (Pr : Program) (W : Q8) (a0 a1 : PV) (σ : St) (R : Res → St → Prop) : Prop :=
Q0 W 12 [] σ (fun a b =>
oF (vUn .not a) fun a =>
gF a false (fun c =>
oF (Qj .str a0 b) fun d =>
bF .gtr d (nI 20000) fun e =>
c (Q9 [(13,(.v a0)),(14,(.v d)),(15,(.v e))]) b) b (fun b c =>
oF (Qc a (.bool true) (b 15).pv) fun a =>
Q3 a (
Q0 W 12 [] c (fun a b =>
wkR σ a b R) (pNR R)) (
X6 σ (fun a =>
Q3 a1 (
Q0 W 31 [a0] c (fun b d =>
oF (XY .u8 b) fun e =>
bF .shr b (.int .u64 8) fun f =>
oF (XY .u8 f) fun f =>
bF .shr b (.int .u64 16) fun g =>
oF (XY .u8 g) fun g =>
bF .shr b (.int .u64 24) fun b =>
oF (XY .u8 b) fun b =>
oF (QI 1 (List.replicate 4 (.int .u8 0)) [(0,e),(1,f),(2,g),(3,b)]) fun b =>
oF (Zf (.list .full b) d) fun b =>
bF .add a0 b fun b =>
kF [(0,b)] a d) (pNR R)) (
kF [(0,a0)] a c)) (fun a b =>
Q0 W 32 [(a 0)] b (fun b c =>
oF (X0 b 0) fun d =>
oF (X0 b 1) fun b =>
oF (Qv 10 (.agg [nL,nL,nL,nL,nL,nL,nL,nL,nL,nL]) 0 d) fun d =>
Q0 W 33 [(a 0)] c (fun a c =>
oF (X0 a 0) fun e =>
oF (X0 a 1) fun a =>
oF (Qv 10 (.agg [nL,nL,nL,nL,nL,nL,nL,nL,nL,nL]) 0 e) fun e =>
bF .eql b a fun a =>
gF a true (fun b =>
oF (Q6 true 10 d 0) fun d =>
oF (Q6 true 10 e 0) fun e =>
Q0 W 34 [d,e] c (fun f g =>
b (Q9 [(50,(.v d)),(51,(.v e)),(52,(.v f))]) g) (pNR R)) c (fun b c =>
oF (Qc a (b 52).pv (.bool false)) fun a =>
wkR σ a c R)) (pNR R)) (pNR R))))) (pNR R)
theorem BQ (W : Q8) (a0 a1 : PV) (σ : St) (R : Res → St → Prop) : Qn (Qq W) Tryz.prog QO 9 [a0,a1] σ R = fn9 Tryz.prog W a0 a1 σ R := by kernel_rfl
def vA (Pr : Program) (W : Q8) (a0 : PV) (σ : St) (R : Res → St → Prop) : Prop :=
Pf 10 (.agg [nL,nL,nL,nL,nL,nL,nL,nL,nL,nL]) σ fun a b =>
Pf 1 (nI 0) b fun b c =>
oF (Qj .str a0 c) fun d =>
bF .gtr d (nI 1048576) fun d =>
Q3 d (
oF (Q4 true 10 a c) fun d =>
oF (QQ 10 a d c) fun d =>
oF (QQ 1 b (nI 3) d) fun d =>
wvR σ (Qs (Q4 true 10 a d) (Qs (Q4 false 1 b d) (some []))) d R) (
oF (Qj .str a0 c) fun d =>
bF .lss d (nI 8) fun d =>
Q3 d (
oF (Q4 true 10 a c) fun d =>
oF (QQ 10 a d c) fun d =>
oF (QQ 1 b (nI 16) d) fun d =>
wvR σ (Qs (Q4 true 10 a d) (Qs (Q4 false 1 b d) (some []))) d R) (
oF (Xg a0 none (some (nI 4))) fun d =>
bF .neq d (.str [69,78,86,49]) fun d =>
Q3 d (
oF (Q4 true 10 a c) fun d =>
oF (QQ 10 a d c) fun d =>
oF (QQ 1 b (nI 13) d) fun d =>
wvR σ (Qs (Q4 true 10 a d) (Qs (Q4 false 1 b d) (some []))) d R) (
oF (Qj .str a0 c) fun d =>
bF .sub d (nI 4) fun d =>
oF (Xg a0 none (some d)) fun d =>
XE (Ua 23 d c) fun c d =>
oF (Qj .str a0 []) fun e =>
bF .sub e (nI 4) fun e =>
oF (Xg a0 (some e) none) fun e =>
Q0 W 79 [c] d (fun d f =>
Q0 W 78 [d] f (fun d f =>
oF (Zf d f) fun d =>
bF .neq d e fun d =>
Q3 d (
oF (Q4 true 10 a f) fun d =>
oF (QQ 10 a d f) fun d =>
oF (QQ 1 b (nI 15) d) fun d =>
wvR σ (Qs (Q4 true 10 a d) (Qs (Q4 false 1 b d) (some []))) d R) (
oF (XN 1 c (some (nI 4)) none) fun c =>
oF (QF [nL] [(0,1,c)]) fun c =>
oF (opC.vBoxAny (.agg c)) fun c =>
if 0 < c.1 then Pf c.1 c.2 f fun c d =>
Q0 W 82 [c] d (fun d e =>
oF (QQ 10 a d e) fun d =>
lF c 0 d fun c =>
oF (Qj .sl c d) fun c =>
bF .gtr c (nI 0) fun c =>
Q3 c (
oF (QF [nL,nL,nL,nL,nL,nL,nL,nL,nL,nL] []) fun c =>
oF (QQ 10 a (.agg c) d) fun c =>
oF (QQ 1 b (nI 2) c) fun c =>
oF (QR (some .ifc) .eql .nilIface .nilIface) fun e =>
Q3 e (
wvR σ (Qs (Q4 true 10 a c) (Qs (Q4 false 1 b c) (some []))) c R) (
oF (V5 140 (.agg [(nI 0)]) true .nilIface) fun e =>
oF (X0 e 1) fun f =>
oF (X0 e 0) fun e =>
Q3 f (
uF (.agg [(nI 0)]) 0 e fun e =>
oF (QF [nL,nL,nL,nL,nL,nL,nL,nL,nL,nL] []) fun f =>
pF e 0 fun e =>
oF (QQ 10 a (.agg f) c) fun f =>
oF (QQ 1 b e f) fun e =>
wvR σ (Qs (Q4 true 10 a e) (Qs (Q4 false 1 b e) (some []))) e R) (
Jm .nilIface fun e => R (.pan e) c))) (
oF (Q4 true 10 a d) fun c =>
Q0 W 24 [c] d (fun c d =>
oF (Qv 2 (.agg [(nI 0),(nI 0)]) 0 c) fun c =>
pF c 1 fun e =>
bF .neq e (nI 0) fun e =>
Q3 e (
oF (QF [nL,nL,nL,nL,nL,nL,nL,nL,nL,nL] []) fun e =>
pF c 1 fun c =>
oF (QQ 10 a (.agg e) d) fun e =>
oF (QQ 1 b c e) fun c =>
oF (QR (some .ifc) .eql .nilIface .nilIface) fun e =>
Q3 e (
wvR σ (Qs (Q4 true 10 a c) (Qs (Q4 false 1 b c) (some []))) c R) (
oF (V5 140 (.agg [(nI 0)]) true .nilIface) fun e =>
oF (X0 e 1) fun f =>
oF (X0 e 0) fun e =>
Q3 f (
uF (.agg [(nI 0)]) 0 e fun e =>
oF (QF [nL,nL,nL,nL,nL,nL,nL,nL,nL,nL] []) fun f =>
pF e 0 fun e =>
oF (QQ 10 a (.agg f) c) fun f =>
oF (QQ 1 b e f) fun e =>
wvR σ (Qs (Q4 true 10 a e) (Qs (Q4 false 1 b e) (some []))) e R) (
Jm .nilIface fun e => R (.pan e) c))) (
oF (Q4 true 10 a d) fun c =>
oF (QQ 10 a c d) fun c =>
oF (QQ 1 b (nI 0) c) fun c =>
oF (QR (some .ifc) .eql .nilIface .nilIface) fun d =>
Q3 d (
wvR σ (Qs (Q4 true 10 a c) (Qs (Q4 false 1 b c) (some []))) c R) (
oF (V5 140 (.agg [(nI 0)]) true .nilIface) fun d =>
oF (X0 d 1) fun e =>
oF (X0 d 0) fun d =>
Q3 e (
uF (.agg [(nI 0)]) 0 d fun d =>
oF (QF [nL,nL,nL,nL,nL,nL,nL,nL,nL,nL] []) fun e =>
pF d 0 fun d =>
oF (QQ 10 a (.agg e) c) fun e =>
oF (QQ 1 b d e) fun d =>
wvR σ (Qs (Q4 true 10 a d) (Qs (Q4 false 1 b d) (some []))) d R) (
Jm .nilIface fun d => R (.pan d) c)))) (fun c d => oF (QR (some .ifc) .eql c .nilIface) fun e =>
Q3 e (
wvR σ (Qs (Q4 true 10 a d) (Qs (Q4 false 1 b d) (some []))) d R) (
oF (V5 140 (.agg [(nI 0)]) true c) fun e =>
oF (X0 e 1) fun f =>
oF (X0 e 0) fun e =>
Q3 f (
uF (.agg [(nI 0)]) 0 e fun e =>
oF (QF [nL,nL,nL,nL,nL,nL,nL,nL,nL,nL] []) fun f =>
pF e 0 fun e =>
oF (QQ 10 a (.agg f) d) fun d =>
oF (QQ 1 b e d) fun d =>
wvR σ (Qs (Q4 true 10 a d) (Qs (Q4 false 1 b d) (some []))) d R) (
Jm c fun c => False))))) (fun c d => oF (QR (some .ifc) .eql c .nilIface) fun e =>
Q3 e (
wvR σ (Qs (Q4 true 10 a d) (Qs (Q4 false 1 b d) (some []))) d R) (
oF (V5 140 (.agg [(nI 0)]) true c) fun e =>
oF (X0 e 1) fun f =>
oF (X0 e 0) fun e =>
Q3 f (
uF (.agg [(nI 0)]) 0 e fun e =>
oF (QF [nL,nL,nL,nL,nL,nL,nL,nL,nL,nL] []) fun f =>
pF e 0 fun e =>
oF (QQ 10 a (.agg f) d) fun d =>
oF (QQ 1 b e d) fun d =>
wvR σ (Qs (Q4 true 10 a d) (Qs (Q4 false 1 b d) (some []))) d R) (
Jm c fun a => False))) else False)) (pNR R)) (pNR R))))
theorem DD (W : Q8) (a0 : PV) (σ : St) (R : Res → St → Prop) : Qn (Qq W) Tryz.prog QO 32 [a0] σ R = vA Tryz.prog W a0 σ R := by kernel_rfl
def AZ (Pr : Program) (W : Q8) (a0 : PV) (σ : St) (R : Res → St → Prop) : Prop :=
oF (Qj .str a0 σ) fun a =>
bF .gtr a (nI 1048576) fun b =>
Q3 b (
oF (QF [nL,nL,nL,nL,nL,nL,nL,nL,nL,nL] []) fun b =>
oF (Qv 10 (.agg [nL,nL,nL,nL,nL,nL,nL,nL,nL,nL]) 0 (.agg b)) fun b =>
wvR σ (Qs (Q6 true 10 b 0) (Qs (some (nI 3)) (some []))) σ R) (
bF .lss a (nI 8) fun b =>
Q3 b (
oF (QF [nL,nL,nL,nL,nL,nL,nL,nL,nL,nL] []) fun b =>
oF (Qv 10 (.agg [nL,nL,nL,nL,nL,nL,nL,nL,nL,nL]) 0 (.agg b)) fun b =>
wvR σ (Qs (Q6 true 10 b 0) (Qs (some (nI 16)) (some []))) σ R) (
oF (Xg a0 none (some (nI 4))) fun b =>
bF .neq b (.str [69,78,86,49]) fun b =>
Q3 b (
oF (QF [nL,nL,nL,nL,nL,nL,nL,nL,nL,nL] []) fun b =>
oF (Qv 10 (.agg [nL,nL,nL,nL,nL,nL,nL,nL,nL,nL]) 0 (.agg b)) fun b =>
wvR σ (Qs (Q6 true 10 b 0) (Qs (some (nI 13)) (some []))) σ R) (
bF .sub a (nI 4) fun b =>
oF (Xg a0 none (some b)) fun b =>
Q0 W 31 [b] σ (fun b c =>
bF .sub a (nI 4) fun d =>
oF (Xg a0 (some d) none) fun d =>
oF (XY .u8 b) fun e =>
bF .shr b (.int .u64 8) fun f =>
oF (XY .u8 f) fun f =>
bF .shr b (.int .u64 16) fun g =>
oF (XY .u8 g) fun g =>
bF .shr b (.int .u64 24) fun b =>
oF (XY .u8 b) fun b =>
oF (QI 1 (List.replicate 4 (.int .u8 0)) [(0,e),(1,f),(2,g),(3,b)]) fun b =>
oF (Zf (.list .full b) c) fun b =>
bF .neq d b fun b =>
Q3 b (
oF (QF [nL,nL,nL,nL,nL,nL,nL,nL,nL,nL] []) fun b =>
oF (Qv 10 (.agg [nL,nL,nL,nL,nL,nL,nL,nL,nL,nL]) 0 (.agg b)) fun b =>
wvR σ (Qs (Q6 true 10 b 0) (Qs (some (nI 15)) (some []))) c R) (
bF .sub a (nI 4) fun a =>
oF (Xg a0 none (some a)) fun a =>
oF (QF [(.str []),(nI 0),(nI 0)] [(0,1,a),(1,1,(nI 4))]) fun a =>
oF (opC.vBoxAny (.agg a)) fun a =>
if 0 < a.1 then Pf a.1 a.2 c fun a b =>
Pf 10 (.agg [nL,nL,nL,nL,nL,nL,nL,nL,nL,nL]) b fun b c =>
Q0 W 83 [a,b] c (fun c c =>
Q0 W 84 [a,b] c (fun c c =>
X6 σ (fun d =>
lF a 2 c fun e =>
bF .eql e (nI 0) fun e =>
gF e true (fun f =>
oF (Vb a) fun g =>
oF (Qh 1 g) fun h =>
oF (Q4 false 1 h c) fun i =>
oF (Vb a) fun j =>
oF (Qh 0 j) fun k =>
oF (Q4 false 1 k c) fun l =>
oF (Qj .str l c) fun m =>
bF .lss i m fun n =>
f (Q9 [(64,(.v a)),(65,(.v g)),(66,(.v h)),(67,(.v i)),(68,(.v a)),(69,(.v j)),(70,(.v k)),(71,(.v l)),(72,(.v m)),(73,(.v n))]) c) c (fun c f =>
oF (Qc e (c 73).pv (.bool false)) fun c =>
Q3 c (
Q0 W 85 [a,(nI 2)] f (fun c c =>
kF [(6,a),(7,b),(2,(.agg [nL,nL,nL,nL,nL,nL,nL,nL,nL,nL]))] d c) (pNR R)) (
kF [(6,a),(7,b),(2,(.agg [nL,nL,nL,nL,nL,nL,nL,nL,nL,nL]))] d f))) (fun a b =>
lF (a 6) 2 b fun c =>
bF .neq c (nI 0) fun c =>
Q3 c (
oF (QF [nL,nL,nL,nL,nL,nL,nL,nL,nL,nL] []) fun c =>
lF (a 6) 2 b fun d =>
oF (Qv 10 (a 2) 0 (.agg c)) fun c =>
wvR σ (Qs (Q6 true 10 c 0) (Qs (some d) (some []))) b R) (
oF (Q4 true 10 (a 7) b) fun c =>
Q0 W 25 [c] b (fun b c =>
oF (Qv 2 (.agg [(nI 0),(nI 0)]) 0 b) fun b =>
pF b 1 fun d =>
bF .neq d (nI 0) fun d =>
Q3 d (
((oF (QF [nL,nL,nL,nL,nL,nL,nL,nL,nL,nL] []) fun d =>
pF b 1 fun e =>
oF (Qv 10 (a 2) 0 (.agg d)) fun d =>
wvR σ (Qs (Q6 true 10 d 0) (Qs (some e) (some []))) c R) ∧ (oF (QF [nL,nL,nL,nL,nL,nL,nL,nL,nL,nL] []) fun d =>
oF (Qv 10 (a 2) 0 (.agg d)) fun d =>
pF b 1 fun b =>
wvR σ (Qs (Q6 true 10 d 0) (Qs (some b) (some []))) c R))) (
oF (Q4 true 10 (a 7) c) fun b =>
oF (Qv 10 (a 2) 0 b) fun a =>
wvR σ (Qs (Q6 true 10 a 0) (Qs (some (nI 0)) (some []))) c R)) (pNR R)))) (pNR R)) (pNR R) else False)) (pNR R))))
theorem Di (W : Q8) (a0 : PV) (σ : St) (R : Res → St → Prop) : Qn (Qq W) Tryz.prog QO 33 [a0] σ R = AZ Tryz.prog W a0 σ R := by kernel_rfl
def vI (Pr : Program) (W : Q8) (a0 : PV) (σ : St) (R : Res → St → Prop) : Prop :=
oF (opC.vBoxAny a0) fun a =>
if 0 < a.1 then Pf a.1 a.2 σ fun a b =>
oF (Q4 false 1 a b) fun c =>
Q0 W 167 [c,(.func 168 0 [a])] b (fun b c =>
uF (.agg [nL,nL,nL,nL,nL,nL,nL,nL,nL,nL]) 0 b fun b =>
oF (Q4 false 1 a c) fun d =>
oF (Q4 false 1 a c) fun e =>
Q0 W 171 [d,(.func 172 1 [e])] c (fun c d =>
uF b 1 c fun b =>
oF (Q4 false 1 a d) fun c =>
Q0 W 173 [c,(.func 174 0 [a])] d (fun c d =>
uF b 2 c fun b =>
oF (Q4 false 1 a d) fun c =>
oF (Q4 false 1 a d) fun e =>
Q0 W 176 [c,(.func 177 1 [e])] d (fun c d =>
uF b 3 c fun b =>
oF (Q4 false 1 a d) fun c =>
oF (Q4 false 1 a d) fun e =>
Q0 W 178 [c,(.func 179 1 [e])] d (fun c d =>
uF b 4 c fun b =>
oF (Q4 false 1 a d) fun c =>
oF (Q4 false 1 a d) fun e =>
Q0 W 171 [c,(.func 172 1 [e])] d (fun c d =>
uF b 5 c fun b =>
oF (Q4 false 1 a d) fun c =>
oF (Q4 false 1 a d) fun e =>
Q0 W 171 [c,(.func 172 1 [e])] d (fun c d =>
uF b 6 c fun b =>
oF (Q4 false 1 a d) fun c =>
oF (Q4 false 1 a d) fun e =>
Q0 W 180 [c,(.func 181 1 [e])] d (fun c d =>
uF b 7 c fun b =>
oF (Q4 false 1 a d) fun c =>
Q0 W 182 [c,(.func 183 0 [a])] d (fun c d =>
uF b 8 c fun b =>
oF (Q4 false 1 a d) fun c =>
Q0 W 185 [c,(.func 186 0 [a])] d (fun a c =>
uF b 9 a fun a =>
oF (Q6 true 10 a 0) fun a =>
oF (Qv 10 (.agg [nL,nL,nL,nL,nL,nL,nL,nL,nL,nL]) 0 a) fun a =>
wvR σ (Qs (Q6 true 10 a 0) (some [])) c R) (pNR R)) (pNR R)) (pNR R)) (pNR R)) (pNR R)) (pNR R)) (pNR R)) (pNR R)) (pNR R)) (pNR R) else False
theorem C6 (W : Q8) (a0 : PV) (σ : St) (R : Res → St → Prop) : Qn (Qq W) Tryz.prog QO 82 [a0] σ R = vI Tryz.prog W a0 σ R := by kernel_rfl
def xG (Pr : Program) (W : Q8) (a0 a1 : PV) (σ : St) (R : Res → St → Prop) : Prop :=
Q0 W 187 [a0] σ (fun a b =>
X6 σ (fun c =>
QC [(0,a0),(1,a1),(4,a),(5,nI 0)] fun a =>
Lfp σ (fun d e f =>
bF .lss (e 5) (e 4) fun g =>
gF g true (fun h =>
oF (Vb (e 0)) fun i =>
oF (Qh 2 i) fun j =>
oF (Q4 false 1 j f) fun k =>
bF .eql k (nI 0) fun l =>
h (Q9 [(16,(.v (e 0))),(17,(.v i)),(18,(.v j)),(19,(.v k)),(20,(.v l))]) f) f (fun f h =>
oF (Qc g (f 20).pv (.bool false)) fun f =>
Q3 f (
((lF (e 1) 0 h fun f =>
Q0 W 188 [(e 0)] h (fun g i =>
oF (QF [nL] [(0,1,g)]) fun g =>
mF 1 (.agg [nL]) (.agg g) fun g =>
XE (QM 1 24 f (.list .full g) i) fun f g =>
sF (e 1) 0 f g fun f =>
bF .add (e 5) (nI 1) fun g =>
kF [(0,e 0),(1,e 1),(4,e 4),(5,g)] d f) (pNR R)) ∧ (oF (Vb (e 1)) fun f =>
oF (Qh 0 f) fun f =>
Q0 W 188 [(e 0)] h (fun g i =>
oF (Q4 false 1 f i) fun f =>
oF (QF [nL] [(0,1,g)]) fun g =>
mF 1 (.agg [nL]) (.agg g) fun g =>
XE (QM 1 24 f (.list .full g) i) fun f g =>
sF (e 1) 0 f g fun f =>
bF .add (e 5) (nI 1) fun g =>
kF [(0,e 0),(1,e 1),(4,e 4),(5,g)] d f) (pNR R)))) (
kF [(0,e 0),(1,e 1)] c h))) a b) (fun a b =>
Q0 W 189 [(a 0)] b (fun b c =>
sF (a 1) 1 b c fun b =>
Q0 W 187 [(a 0)] b (fun b c =>
X6 σ (fun d =>
QC [(0,a 0),(1,a 1),(4,b),(6,nI 0)] fun a =>
Lfp σ (fun b e f =>
bF .lss (e 6) (e 4) fun g =>
gF g true (fun h =>
oF (Vb (e 0)) fun i =>
oF (Qh 2 i) fun j =>
oF (Q4 false 1 j f) fun k =>
bF .eql k (nI 0) fun l =>
h (Q9 [(47,(.v (e 0))),(48,(.v i)),(49,(.v j)),(50,(.v k)),(51,(.v l))]) f) f (fun f h =>
oF (Qc g (f 51).pv (.bool false)) fun f =>
Q3 f (
Q0 W 190 [(e 0)] h (fun f g =>
Q0 W 190 [(e 0)] g (fun g i =>
lF (e 1) 2 i fun j =>
oF (QF [(nI 0),(nI 0)] [(0,1,f),(1,1,g)]) fun f =>
mF 2 (.agg [(nI 0),(nI 0)]) (.agg f) fun f =>
XE (QM 2 16 j (.list .full f) i) fun f g =>
sF (e 1) 2 f g fun f =>
bF .add (e 6) (nI 1) fun g =>
kF [(0,e 0),(1,e 1),(4,e 4),(6,g)] b f) (pNR R)) (pNR R)) (
kF [(0,e 0),(1,e 1)] d h))) a c) (fun a b =>
Q0 W 187 [(a 0)] b (fun b c =>
QC [(0,a 0),(1,a 1),(4,b),(9,nI 0)] fun a =>
Lfp σ (fun b d e =>
bF .lss (d 9) (d 4) fun f =>
gF f true (fun g =>
oF (Vb (d 0)) fun h =>
oF (Qh 2 h) fun i =>
oF (Q4 false 1 i e) fun j =>
bF .eql j (nI 0) fun k =>
g (Q9 [(77,(.v (d 0))),(78,(.v h)),(79,(.v i)),(80,(.v j)),(81,(.v k))]) e) e (fun e g =>
oF (Qc f (e 81).pv (.bool false)) fun e =>
Q3 e (
((lF (d 1) 3 g fun e =>
Q0 W 191 [(d 0)] g (fun f h =>
mF 9 (.agg [(nI 0),(nI 0),(nI 0),(nI 0),(nI 0),(nI 0),(nI 0),(nI 0),nL]) f fun f =>
XE (QM 9 88 e (.list .full f) h) fun e f =>
sF (d 1) 3 e f fun e =>
bF .add (d 9) (nI 1) fun f =>
kF [(0,d 0),(1,d 1),(4,d 4),(9,f)] b e) (pNR R)) ∧ (oF (Vb (d 1)) fun e =>
oF (Qh 3 e) fun e =>
Q0 W 191 [(d 0)] g (fun f h =>
oF (Q4 false 1 e h) fun e =>
mF 9 (.agg [(nI 0),(nI 0),(nI 0),(nI 0),(nI 0),(nI 0),(nI 0),(nI 0),nL]) f fun f =>
XE (QM 9 88 e (.list .full f) h) fun e f =>
sF (d 1) 3 e f fun e =>
bF .add (d 9) (nI 1) fun f =>
kF [(0,d 0),(1,d 1),(4,d 4),(9,f)] b e) (pNR R)))) (
wkR σ (.tuple []) g R))) a c) (pNR R))) (pNR R)) (pNR R))) (pNR R)
theorem Cl (W : Q8) (a0 a1 : PV) (σ : St) (R : Res → St → Prop) : Qn (Qq W) Tryz.prog QO 83 [a0,a1] σ R = xG Tryz.prog W a0 a1 σ R := by kernel_rfl
def uy (Pr : Program) (W : Q8) (a0 a1 : PV) (σ : St) (R : Res → St → Prop) : Prop :=
Q0 W 187 [a0] σ (fun a b =>
X6 σ (fun c =>
QC [(0,a0),(1,a1),(4,a),(5,nI 0)] fun a =>
Lfp σ (fun d e f =>
bF .lss (e 5) (e 4) fun g =>
gF g true (fun h =>
oF (Vb (e 0)) fun i =>
oF (Qh 2 i) fun j =>
oF (Q4 false 1 j f) fun k =>
bF .eql k (nI 0) fun l =>
h (Q9 [(19,(.v (e 0))),(20,(.v i)),(21,(.v j)),(22,(.v k)),(23,(.v l))]) f) f (fun f h =>
oF (Qc g (f 23).pv (.bool false)) fun f =>
Q3 f (
Q0 W 190 [(e 0)] h (fun f g =>
uF (.agg [(nI 0),(nI 0),(nI 0),(nI 0),(nI 0),(nI 0),(nI 0),(nI 0),(nI 0),(nI 0),(nI 0),(nI 0)]) 0 f fun f =>
Q0 W 192 [(e 0)] g (fun g i =>
oF (Qv 3 f 1 g) fun f =>
Q0 W 192 [(e 0)] i (fun g i =>
oF (Qv 3 f 4 g) fun f =>
Q0 W 192 [(e 0)] i (fun g i =>
oF (Qv 3 f 7 g) fun f =>
Q0 W 193 [(e 0)] i (fun g i =>
uF f 10 g fun f =>
Q0 W 190 [(e 0)] i (fun g i =>
uF f 11 g fun f =>
lF (e 1) 4 i fun g =>
oF (Q6 true 12 f 0) fun f =>
mF 12 (.agg [(nI 0),(nI 0),(nI 0),(nI 0),(nI 0),(nI 0),(nI 0),(nI 0),(nI 0),(nI 0),(nI 0),(nI 0)]) f fun f =>
XE (QM 12 96 g (.list .full f) i) fun f g =>
sF (e 1) 4 f g fun f =>
bF .add (e 5) (nI 1) fun g =>
kF [(0,e 0),(1,e 1),(4,e 4),(5,g)] d f) (pNR R)) (pNR R)) (pNR R)) (pNR R)) (pNR R)) (pNR R)) (
kF [(0,e 0),(1,e 1)] c h))) a b) (fun a b =>
Q0 W 189 [(a 0)] b (fun b c =>
sF (a 1) 5 b c fun b =>
Q0 W 189 [(a 0)] b (fun b c =>
sF (a 1) 6 b c fun b =>
Q0 W 187 [(a 0)] b (fun b c =>
X6 σ (fun d =>
QC [(0,a 0),(1,a 1),(4,b),(7,nI 0)] fun a =>
Lfp σ (fun b e f =>
bF .lss (e 7) (e 4) fun g =>
gF g true (fun h =>
oF (Vb (e 0)) fun i =>
oF (Qh 2 i) fun j =>
oF (Q4 false 1 j f) fun k =>
bF .eql k (nI 0) fun l =>
h (Q9 [(71,(.v (e 0))),(72,(.v i)),(73,(.v j)),(74,(.v k)),(75,(.v l))]) f) f (fun f h =>
oF (Qc g (f 75).pv (.bool false)) fun f =>
Q3 f (
((lF (e 1) 7 h fun f =>
Q0 W 194 [(e 0)] h (fun g i =>
mF 1 (.str []) g fun g =>
XE (QM 1 16 f (.list .full g) i) fun f g =>
sF (e 1) 7 f g fun f =>
bF .add (e 7) (nI 1) fun g =>
kF [(0,e 0),(1,e 1),(4,e 4),(7,g)] b f) (pNR R)) ∧ (oF (Vb (e 1)) fun f =>
oF (Qh 7 f) fun f =>
Q0 W 194 [(e 0)] h (fun g i =>
oF (Q4 false 1 f i) fun f =>
mF 1 (.str []) g fun g =>
XE (QM 1 16 f (.list .full g) i) fun f g =>
sF (e 1) 7 f g fun f =>
bF .add (e 7) (nI 1) fun g =>
kF [(0,e 0),(1,e 1),(4,e 4),(7,g)] b f) (pNR R)))) (
kF [(0,e 0),(1,e 1)] d h))) a c) (fun a b =>
Q0 W 187 [(a 0)] b (fun b c =>
X6 σ (fun d =>
QC [(0,a 0),(1,a 1),(4,b),(8,nI 0)] fun a =>
Lfp σ (fun b e f =>
bF .lss (e 8) (e 4) fun g =>
gF g true (fun h =>
oF (Vb (e 0)) fun i =>
oF (Qh 2 i) fun j =>
oF (Q4 false 1 j f) fun k =>
bF .eql k (nI 0) fun l =>
h (Q9 [(96,(.v (e 0))),(97,(.v i)),(98,(.v j)),(99,(.v k)),(100,(.v l))]) f) f (fun f h =>
oF (Qc g (f 100).pv (.bool false)) fun f =>
Q3 f (
Q0 W 194 [(e 0)] h (fun f g =>
uF (.agg [(.str []),(.bool false),(nI 0)]) 0 f fun f =>
Q0 W 195 [(e 0)] g (fun g i =>
uF f 1 g fun f =>
Q0 W 190 [(e 0)] i (fun g i =>
uF f 2 g fun f =>
lF (e 1) 8 i fun g =>
oF (Q6 true 3 f 0) fun f =>
mF 3 (.agg [(.str []),(.bool false),(nI 0)]) f fun f =>
XE (QM 3 32 g (.list .full f) i) fun f g =>
sF (e 1) 8 f g fun f =>
bF .add (e 8) (nI 1) fun g =>
kF [(0,e 0),(1,e 1),(4,e 4),(8,g)] b f) (pNR R)) (pNR R)) (pNR R)) (
kF [(0,e 0),(1,e 1)] d h))) a c) (fun a b =>
Q0 W 187 [(a 0)] b (fun b c =>
QC [(0,a 0),(1,a 1),(4,b),(10,nI 0)] fun a =>
Lfp σ (fun b d e =>
bF .lss (d 10) (d 4) fun f =>
gF f true (fun g =>
oF (Vb (d 0)) fun h =>
oF (Qh 2 h) fun i =>
oF (Q4 false 1 i e) fun j =>
bF .eql j (nI 0) fun k =>
g (Q9 [(129,(.v (d 0))),(130,(.v h)),(131,(.v i)),(132,(.v j)),(133,(.v k))]) e) e (fun e g =>
oF (Qc f (e 133).pv (.bool false)) fun e =>
Q3 e (
Q0 W 190 [(d 0)] g (fun e f =>
Q0 W 190 [(d 0)] f (fun f h =>
lF (d 1) 9 h fun i =>
oF (QF [(nI 0),(nI 0)] [(0,1,e),(1,1,f)]) fun e =>
mF 2 (.agg [(nI 0),(nI 0)]) (.agg e) fun e =>
XE (QM 2 16 i (.list .full e) h) fun e f =>
sF (d 1) 9 e f fun e =>
bF .add (d 10) (nI 1) fun f =>
kF [(0,d 0),(1,d 1),(4,d 4),(10,f)] b e) (pNR R)) (pNR R)) (
wkR σ (.tuple []) g R))) a c) (pNR R))) (pNR R))) (pNR R)) (pNR R)) (pNR R))) (pNR R)
theorem C3 (W : Q8) (a0 a1 : PV) (σ : St) (R : Res → St → Prop) : Qn (Qq W) Tryz.prog QO 84 [a0,a1] σ R = uy Tryz.prog W a0 a1 σ R := by kernel_rfl
def xn (Pr : Program) (W : Q8) (a0 a1 : PV) (σ : St) (R : Res → St → Prop) : Prop :=
X6 σ (fun a =>
lF a0 2 σ fun b =>
bF .eql b (nI 0) fun b =>
Q3 b (
sF a0 2 a1 σ fun b =>
kF [(0,a0)] a b) (
kF [(0,a0)] a σ)) (fun a b =>
lF (a 0) 0 b fun c =>
oF (Qj .str c b) fun c =>
sF (a 0) 1 c b fun a =>
wkR σ (.tuple []) a R)
theorem Ds (W : Q8) (a0 a1 : PV) (σ : St) (R : Res → St → Prop) : Qn (Qq W) Tryz.prog QO 85 [a0,a1] σ R = xn Tryz.prog W a0 a1 σ R := by kernel_rfl
def Au (Pr : Program) (W : Q8) (a0 a1 : PV) (σ : St) (R : Res → St → Prop) : Prop :=
Q0 W 250 [a0] σ (fun a b =>
QC [(1,a1),(5,nL),(7,a),(8,nI 0)] fun a =>
Lfp σ (fun c d e =>
bF .lss (d 8) (d 7) fun f =>
Q3 f (
Zc (Qq W) Pr false (d 1) [] e (fun f g =>
mF 1 (.agg [nL]) f fun f =>
XE (QM 1 24 (d 5) (.list .full f) g) fun f g =>
bF .add (d 8) (nI 1) fun h =>
kF [(1,d 1),(5,f),(7,d 7),(8,h)] c g) (pNR R)) (
wkR σ (d 5) e R)) a b) (pNR R)
theorem Es (W : Q8) (a0 a1 : PV) (σ : St) (R : Res → St → Prop) : Qn (Qq W) Tryz.prog QO 167 [a0,a1] σ R = Au Tryz.prog W a0 a1 σ R := by kernel_rfl
def B9 (Pr : Program) (W : Q8) (a0 : PV) (σ : St) (R : Res → St → Prop) : Prop :=
oF (Q4 false 1 a0 σ) fun a =>
oF (Q4 false 1 a0 σ) fun b =>
Q0 W 169 [a,(.func 170 1 [b])] σ (fun a b =>
oF (QF [nL] [(0,1,a)]) fun a =>
uF (.agg [nL]) 0 (.agg a) fun a =>
wvR σ (Qs (Q6 true 1 a 0) (some [])) b R) (pNR R)
theorem El (W : Q8) (a0 : PV) (σ : St) (R : Res → St → Prop) : Qn (Qq W) Tryz.prog QO 168 [a0] σ R = B9 Tryz.prog W a0 σ R := by kernel_rfl
def AW (Pr : Program) (W : Q8) (a0 a1 : PV) (σ : St) (R : Res → St → Prop) : Prop :=
Q0 W 250 [a0] σ (fun a b =>
QC [(1,a1),(5,nL),(7,a),(8,nI 0)] fun a =>
Lfp σ (fun c d e =>
bF .lss (d 8) (d 7) fun f =>
Q3 f (
Zc (Qq W) Pr false (d 1) [] e (fun f g =>
mF 5 (.agg [(nI 0),(nI 0),(nI 0),(nI 0),(.bool false)]) f fun f =>
XE (QM 5 40 (d 5) (.list .full f) g) fun f g =>
bF .add (d 8) (nI 1) fun h =>
kF [(1,d 1),(5,f),(7,d 7),(8,h)] c g) (pNR R)) (
wkR σ (d 5) e R)) a b) (pNR R)
theorem FY (W : Q8) (a0 a1 : PV) (σ : St) (R : Res → St → Prop) : Qn (Qq W) Tryz.prog QO 169 [a0,a1] σ R = AW Tryz.prog W a0 a1 σ R := by kernel_rfl
def CL (Pr : Program) (W : Q8) (a0 : PV) (σ : St) (R : Res → St → Prop) : Prop :=
Q0 W 175 [a0] σ (fun a b =>
oF (QF [(nI 0),(nI 0),(nI 0),(nI 0),(.bool false)] [(0,1,a)]) fun a =>
oF (Qv 5 (.agg [(nI 0),(nI 0),(nI 0),(nI 0),(.bool false)]) 0 (.agg a)) fun a =>
Q0 W 175 [a0] b (fun b c =>
uF a 1 b fun a =>
Q0 W 175 [a0] c (fun b c =>
uF a 2 b fun a =>
Q0 W 175 [a0] c (fun b c =>
uF a 3 b fun a =>
Q0 W 184 [a0] c (fun b c =>
uF a 4 b fun a =>
oF (Q6 true 5 a 0) fun a =>
oF (Qv 5 (.agg [(nI 0),(nI 0),(nI 0),(nI 0),(.bool false)]) 0 a) fun a =>
wvR σ (Qs (Q6 true 5 a 0) (some [])) c R) (pNR R)) (pNR R)) (pNR R)) (pNR R)) (pNR R)
theorem Gi (W : Q8) (a0 : PV) (σ : St) (R : Res → St → Prop) : Qn (Qq W) Tryz.prog QO 170 [a0] σ R = CL Tryz.prog W a0 σ R := by kernel_rfl
def qv (Pr : Program) (W : Q8) (a0 a1 : PV) (σ : St) (R : Res → St → Prop) : Prop :=
Q0 W 250 [a0] σ (fun a b =>
QC [(1,a1),(5,nL),(7,a),(8,nI 0)] fun a =>
Lfp σ (fun c d e =>
bF .lss (d 8) (d 7) fun f =>
Q3 f (
Zc (Qq W) Pr false (d 1) [] e (fun f g =>
mF 1 nL f fun f =>
XE (QM 1 24 (d 5) (.list .full f) g) fun f g =>
bF .add (d 8) (nI 1) fun h =>
kF [(1,d 1),(5,f),(7,d 7),(8,h)] c g) (pNR R)) (
wkR σ (d 5) e R)) a b) (pNR R)
theorem Fu (W : Q8) (a0 a1 : PV) (σ : St) (R : Res → St → Prop) : Qn (Qq W) Tryz.prog QO 171 [a0,a1] σ R = qv Tryz.prog W a0 a1 σ R := by kernel_rfl
def Cs (Pr : Program) (W : Q8) (a0 : PV) (σ : St) (R : Res → St → Prop) : Prop :=
Q0 W 251 [a0,(.func 175 1 [a0])] σ (fun a b =>
wkR σ a b R) (pNR R)
theorem GM (W : Q8) (a0 : PV) (σ : St) (R : Res → St → Prop) : Qn (Qq W) Tryz.prog QO 172 [a0] σ R = Cs Tryz.prog W a0 σ R := by kernel_rfl
def wZ (Pr : Program) (W : Q8) (a0 a1 : PV) (σ : St) (R : Res → St → Prop) : Prop :=
Q0 W 250 [a0] σ (fun a b =>
QC [(1,a1),(5,nL),(7,a),(8,nI 0)] fun a =>
Lfp σ (fun c d e =>
bF .lss (d 8) (d 7) fun f =>
Q3 f (
Zc (Qq W) Pr false (d 1) [] e (fun f g =>
mF 2 (.agg [(nI 0),(nI 0)]) f fun f =>
XE (QM 2 16 (d 5) (.list .full f) g) fun f g =>
bF .add (d 8) (nI 1) fun h =>
kF [(1,d 1),(5,f),(7,d 7),(8,h)] c g) (pNR R)) (
wkR σ (d 5) e R)) a b) (pNR R)
theorem Gv (W : Q8) (a0 a1 : PV) (σ : St) (R : Res → St → Prop) : Qn (Qq W) Tryz.prog QO 173 [a0,a1] σ R = wZ Tryz.prog W a0 a1 σ R := by kernel_rfl
def Be (Pr : Program) (W : Q8) (a0 : PV) (σ : St) (R : Res → St → Prop) : Prop :=
oF (Q4 false 1 a0 σ) fun a =>
Q0 W 175 [a] σ (fun a b =>
oF (QF [(nI 0),(nI 0)] [(0,1,a)]) fun a =>
oF (Qv 2 (.agg [(nI 0),(nI 0)]) 0 (.agg a)) fun a =>
oF (Q4 false 1 a0 b) fun c =>
Q0 W 175 [c] b (fun b c =>
uF a 1 b fun a =>
oF (Q6 true 2 a 0) fun a =>
oF (Qv 2 (.agg [(nI 0),(nI 0)]) 0 a) fun a =>
wvR σ (Qs (Q6 true 2 a 0) (some [])) c R) (pNR R)) (pNR R)
theorem Fi (W : Q8) (a0 : PV) (σ : St) (R : Res → St → Prop) : Qn (Qq W) Tryz.prog QO 174 [a0] σ R = Be Tryz.prog W a0 σ R := by kernel_rfl
def CU (Pr : Program) (W : Q8) (a0 : PV) (σ : St) (R : Res → St → Prop) : Prop :=
Q0 W 252 [a0] σ (fun a b =>
wkR σ a b R) (pNR R)
theorem Fs (W : Q8) (a0 : PV) (σ : St) (R : Res → St → Prop) : Qn (Qq W) Tryz.prog QO 175 [a0] σ R = CU Tryz.prog W a0 σ R := by kernel_rfl
def Ad (Pr : Program) (W : Q8) (a0 a1 : PV) (σ : St) (R : Res → St → Prop) : Prop :=
Q0 W 250 [a0] σ (fun a b =>
QC [(1,a1),(5,nL),(7,a),(8,nI 0)] fun a =>
Lfp σ (fun c d e =>
bF .lss (d 8) (d 7) fun f =>
Q3 f (
Zc (Qq W) Pr false (d 1) [] e (fun f g =>
mF 9 (.agg [(nI 0),(nI 0),(nI 0),(nI 0),(nI 0),(nI 0),(nI 0),(nI 0),nL]) f fun f =>
XE (QM 9 88 (d 5) (.list .full f) g) fun f g =>
bF .add (d 8) (nI 1) fun h =>
kF [(1,d 1),(5,f),(7,d 7),(8,h)] c g) (pNR R)) (
wkR σ (d 5) e R)) a b) (pNR R)
theorem EJ (W : Q8) (a0 a1 : PV) (σ : St) (R : Res → St → Prop) : Qn (Qq W) Tryz.prog QO 176 [a0,a1] σ R = Ad Tryz.prog W a0 a1 σ R := by kernel_rfl
def Cy (Pr : Program) (W : Q8) (a0 : PV) (σ : St) (R : Res → St → Prop) : Prop :=
oF (opC.vBoxAny a0) fun a =>
if 0 < a.1 then Pf a.1 a.2 σ fun a b =>
Pf 9 (.agg [(nI 0),(nI 0),(nI 0),(nI 0),(nI 0),(nI 0),(nI 0),(nI 0),nL]) b fun b c =>
X6 σ (fun d =>
oF (Qh 0 b) fun e =>
oF (Qh 1 b) fun f =>
oF (Qh 2 b) fun g =>
oF (Qh 3 b) fun h =>
oF (Qh 4 b) fun i =>
oF (Qh 5 b) fun j =>
oF (Qh 6 b) fun k =>
oF (Qh 7 b) fun l =>
oF (QI 1 (List.replicate 8 .nilptr) [(0,e),(1,f),(2,g),(3,h),(4,i),(5,j),(6,k),(7,l)]) fun e =>
oF (Qj .sl (.list .full e) c) fun f =>
QC [(1,a),(3,b),(14,(.list .full e)),(15,f),(16,nI 0),(2,(.agg [(nI 0),(nI 0),(nI 0),(nI 0),(nI 0),(nI 0),(nI 0),(nI 0),nL]))] fun a =>
Lfp σ (fun b e f =>
bF .lss (e 16) (e 15) fun g =>
Q3 g (
oF (Q5 1 (e 14) (e 16)) fun g =>
oF (Q4 false 1 g f) fun g =>
oF (Q4 false 1 (e 1) f) fun h =>
Q0 W 175 [h] f (fun h i =>
oF (Vb g) fun g =>
oF (QQ 1 g h i) fun g =>
bF .add (e 16) (nI 1) fun h =>
kF [(1,e 1),(3,e 3),(14,e 14),(15,e 15),(16,h),(2,e 2)] b g) (pNR R)) (
kF [(1,e 1),(3,e 3),(2,e 2)] d f)) a c) (fun a b =>
oF (Q4 false 1 (a 1) b) fun c =>
Q0 W 253 [c,(.func 254 0 [(a 1)])] b (fun b c =>
oF (Qh 8 (a 3)) fun d =>
oF (QQ 1 d b c) fun b =>
oF (Q4 true 9 (a 3) b) fun c =>
oF (Qv 9 (a 2) 0 c) fun a =>
wvR σ (Qs (Q6 true 9 a 0) (some [])) b R) (pNR R)) else False
theorem Ep (W : Q8) (a0 : PV) (σ : St) (R : Res → St → Prop) : Qn (Qq W) Tryz.prog QO 177 [a0] σ R = Cy Tryz.prog W a0 σ R := by kernel_rfl
def vP (Pr : Program) (W : Q8) (a0 a1 : PV) (σ : St) (R : Res → St → Prop) : Prop :=
Q0 W 250 [a0] σ (fun a b =>
QC [(1,a1),(5,nL),(7,a),(8,nI 0)] fun a =>
Lfp σ (fun c d e =>
bF .lss (d 8) (d 7) fun f =>
Q3 f (
Zc (Qq W) Pr false (d 1) [] e (fun f g =>
mF 12 (.agg [(nI 0),(nI 0),(nI 0),(nI 0),(nI 0),(nI 0),(nI 0),(nI 0),(nI 0),(nI 0),(nI 0),(nI 0)]) f fun f =>
XE (QM 12 96 (d 5) (.list .full f) g) fun f g =>
bF .add (d 8) (nI 1) fun h =>
kF [(1,d 1),(5,f),(7,d 7),(8,h)] c g) (pNR R)) (
wkR σ (d 5) e R)) a b) (pNR R)
theorem GZ (W : Q8) (a0 a1 : PV) (σ : St) (R : Res → St → Prop) : Qn (Qq W) Tryz.prog QO 178 [a0,a1] σ R = vP Tryz.prog W a0 a1 σ R := by kernel_rfl
def CT (Pr : Program) (W : Q8) (a0 : PV) (σ : St) (R : Res → St → Prop) : Prop :=
Q0 W 175 [a0] σ (fun a b =>
oF (QF [(nI 0),(nI 0),(nI 0),(nI 0),(nI 0),(nI 0),(nI 0),(nI 0),(nI 0),(nI 0),(nI 0),(nI 0)] [(0,1,a)]) fun a =>
Pf 12 (.agg [(nI 0),(nI 0),(nI 0),(nI 0),(nI 0),(nI 0),(nI 0),(nI 0),(nI 0),(nI 0),(nI 0),(nI 0)]) b fun b c =>
oF (QQ 12 b (.agg a) c) fun a =>
X6 σ (fun c =>
oF (Qh 1 b) fun d =>
oF (Qh 4 b) fun e =>
oF (Qh 7 b) fun f =>
oF (QI 1 (List.replicate 3 .nilptr) [(0,d),(1,e),(2,f)]) fun d =>
oF (Qj .sl (.list .full d) a) fun e =>
QC [(0,a0),(3,b),(12,(.list .full d)),(13,e),(14,nI 0),(2,(.agg [(nI 0),(nI 0),(nI 0),(nI 0),(nI 0),(nI 0),(nI 0),(nI 0),(nI 0),(nI 0),(nI 0),(nI 0)]))] fun b =>
Lfp σ (fun d e f =>
bF .lss (e 14) (e 13) fun g =>
Q3 g (
oF (Q5 1 (e 12) (e 14)) fun g =>
oF (Q4 false 1 g f) fun g =>
Q0 W 175 [(e 0)] f (fun h i =>
sF g 0 h i fun h =>
Q0 W 175 [(e 0)] h (fun h i =>
sF g 1 h i fun h =>
Q0 W 175 [(e 0)] h (fun h i =>
sF g 2 h i fun g =>
bF .add (e 14) (nI 1) fun h =>
kF [(0,e 0),(3,e 3),(12,e 12),(13,e 13),(14,h),(2,e 2)] d g) (pNR R)) (pNR R)) (pNR R)) (
kF [(0,e 0),(3,e 3),(2,e 2)] c f)) b a) (fun a b =>
Q0 W 252 [(a 0)] b (fun b c =>
oF (Qh 10 (a 3)) fun d =>
oF (QQ 1 d b c) fun b =>
Q0 W 175 [(a 0)] b (fun b c =>
oF (Qh 11 (a 3)) fun d =>
oF (QQ 1 d b c) fun b =>
oF (Q4 true 12 (a 3) b) fun c =>
oF (Qv 12 (a 2) 0 c) fun a =>
wvR σ (Qs (Q6 true 12 a 0) (some [])) b R) (pNR R)) (pNR R))) (pNR R)
theorem E2 (W : Q8) (a0 : PV) (σ : St) (R : Res → St → Prop) : Qn (Qq W) Tryz.prog QO 179 [a0] σ R = CT Tryz.prog W a0 σ R := by kernel_rfl
def ub (Pr : Program) (W : Q8) (a0 a1 : PV) (σ : St) (R : Res → St → Prop) : Prop :=
Q0 W 250 [a0] σ (fun a b =>
QC [(1,a1),(5,nL),(7,a),(8,nI 0)] fun a =>
Lfp σ (fun c d e =>
bF .lss (d 8) (d 7) fun f =>
Q3 f (
Zc (Qq W) Pr false (d 1) [] e (fun f g =>
mF 1 (.str []) f fun f =>
XE (QM 1 16 (d 5) (.list .full f) g) fun f g =>
bF .add (d 8) (nI 1) fun h =>
kF [(1,d 1),(5,f),(7,d 7),(8,h)] c g) (pNR R)) (
wkR σ (d 5) e R)) a b) (pNR R)
theorem FZ (W : Q8) (a0 a1 : PV) (σ : St) (R : Res → St → Prop) : Qn (Qq W) Tryz.prog QO 180 [a0,a1] σ R = ub Tryz.prog W a0 a1 σ R := by kernel_rfl
def Bw (Pr : Program) (W : Q8) (a0 : PV) (σ : St) (R : Res → St → Prop) : Prop :=
Q0 W 250 [a0] σ (fun a b =>
lF a0 0 b fun c =>
oF (XN 1 c none (some a)) fun c =>
oF (Zf c b) fun c =>
lF a0 0 b fun d =>
oF (XN 1 d (some a) none) fun a =>
sF a0 0 a b fun a =>
wkR σ c a R) (pNR R)
theorem F3 (W : Q8) (a0 : PV) (σ : St) (R : Res → St → Prop) : Qn (Qq W) Tryz.prog QO 181 [a0] σ R = Bw Tryz.prog W a0 σ R := by kernel_rfl
def xt (Pr : Program) (W : Q8) (a0 a1 : PV) (σ : St) (R : Res → St → Prop) : Prop :=
Q0 W 250 [a0] σ (fun a b =>
QC [(1,a1),(5,nL),(7,a),(8,nI 0)] fun a =>
Lfp σ (fun c d e =>
bF .lss (d 8) (d 7) fun f =>
Q3 f (
Zc (Qq W) Pr false (d 1) [] e (fun f g =>
mF 3 (.agg [(.str []),(.bool false),(nI 0)]) f fun f =>
XE (QM 3 32 (d 5) (.list .full f) g) fun f g =>
bF .add (d 8) (nI 1) fun h =>
kF [(1,d 1),(5,f),(7,d 7),(8,h)] c g) (pNR R)) (
wkR σ (d 5) e R)) a b) (pNR R)
theorem GN (W : Q8) (a0 a1 : PV) (σ : St) (R : Res → St → Prop) : Qn (Qq W) Tryz.prog QO 182 [a0,a1] σ R = xt Tryz.prog W a0 a1 σ R := by kernel_rfl
def CR (Pr : Program) (W : Q8) (a0 : PV) (σ : St) (R : Res → St → Prop) : Prop :=
oF (Q4 false 1 a0 σ) fun a =>
Q0 W 181 [a] σ (fun a b =>
oF (QF [(.str []),(.bool false),(nI 0)] [(0,1,a)]) fun a =>
oF (Qv 3 (.agg [(.str []),(.bool false),(nI 0)]) 0 (.agg a)) fun a =>
oF (Q4 false 1 a0 b) fun c =>
Q0 W 184 [c] b (fun b c =>
uF a 1 b fun a =>
oF (Q4 false 1 a0 c) fun b =>
Q0 W 175 [b] c (fun b c =>
uF a 2 b fun a =>
oF (Q6 true 3 a 0) fun a =>
oF (Qv 3 (.agg [(.str []),(.bool false),(nI 0)]) 0 a) fun a =>
wvR σ (Qs (Q6 true 3 a 0) (some [])) c R) (pNR R)) (pNR R)) (pNR R)
theorem FK (W : Q8) (a0 : PV) (σ : St) (R : Res → St → Prop) : Qn (Qq W) Tryz.prog QO 183 [a0] σ R = CR Tryz.prog W a0 σ R := by kernel_rfl
def Bz (Pr : Program) (W : Q8) (a0 : PV) (σ : St) (R : Res → St → Prop) : Prop :=
Q0 W 252 [a0] σ (fun a b =>
X6 σ (fun c =>
bF .neq a (nI 0) fun d =>
gF d true (fun e =>
bF .neq a (nI 1) fun f =>
e (Q9 [(9,(.v a)),(10,(.v f))]) b) b (fun b e =>
oF (Qc d (b 10).pv (.bool false)) fun b =>
Q3 b (
Q0 W 255 [(nI 2)] e (fun b b =>
kF [(3,a)] c b) (pNR R)) (
kF [(3,a)] c e))) (fun a b =>
bF .eql (a 3) (nI 1) fun a =>
wkR σ a b R)) (pNR R)
theorem F9 (W : Q8) (a0 : PV) (σ : St) (R : Res → St → Prop) : Qn (Qq W) Tryz.prog QO 184 [a0] σ R = Bz Tryz.prog W a0 σ R := by kernel_rfl
def zu (Pr : Program) (W : Q8) (a0 a1 : PV) (σ : St) (R : Res → St → Prop) : Prop :=
Q0 W 250 [a0] σ (fun a b =>
QC [(1,a1),(5,nL),(7,a),(8,nI 0)] fun a =>
Lfp σ (fun c d e =>
bF .lss (d 8) (d 7) fun f =>
Q3 f (
Zc (Qq W) Pr false (d 1) [] e (fun f g =>
mF 2 (.agg [(nI 0),(nI 0)]) f fun f =>
XE (QM 2 16 (d 5) (.list .full f) g) fun f g =>
bF .add (d 8) (nI 1) fun h =>
kF [(1,d 1),(5,f),(7,d 7),(8,h)] c g) (pNR R)) (
wkR σ (d 5) e R)) a b) (pNR R)
theorem EG (W : Q8) (a0 a1 : PV) (σ : St) (R : Res → St → Prop) : Qn (Qq W) Tryz.prog QO 185 [a0,a1] σ R = zu Tryz.prog W a0 a1 σ R := by kernel_rfl
def CB (Pr : Program) (W : Q8) (a0 : PV) (σ : St) (R : Res → St → Prop) : Prop :=
oF (Q4 false 1 a0 σ) fun a =>
Q0 W 175 [a] σ (fun a b =>
oF (QF [(nI 0),(nI 0)] [(0,1,a)]) fun a =>
oF (Qv 2 (.agg [(nI 0),(nI 0)]) 0 (.agg a)) fun a =>
oF (Q4 false 1 a0 b) fun c =>
Q0 W 175 [c] b (fun b c =>
uF a 1 b fun a =>
oF (Q6 true 2 a 0) fun a =>
oF (Qv 2 (.agg [(nI 0),(nI 0)]) 0 a) fun a =>
wvR σ (Qs (Q6 true 2 a 0) (some [])) c R) (pNR R)) (pNR R)
theorem E3 (W : Q8) (a0 : PV) (σ : St) (R : Res → St → Prop) : Qn (Qq W) Tryz.prog QO 186 [a0] σ R = CB Tryz.prog W a0 σ R := by kernel_rfl
def Bc (Pr : Program) (W : Q8) (a0 : PV) (σ : St) (R : Res → St → Prop) : Prop :=
Q0 W 193 [a0] σ (fun a b =>
X6 σ (fun c =>
lF a0 2 b fun d =>
bF .eql d (nI 0) fun d =>
gF d true (fun e =>
bF .lss a (nI 0) fun f =>
e (Q9 [(12,(.v a)),(13,(.v f)),(14,(.v f))]) b) b (fun b e =>
gF (b 14).pv false (fun f =>
oF (Vb a0) fun g =>
oF (Qh 0 g) fun h =>
oF (Q4 false 1 h e) fun i =>
oF (Qj .str i e) fun j =>
oF (Vb a0) fun k =>
oF (Qh 1 k) fun l =>
oF (Q4 false 1 l e) fun m =>
bF .sub j m fun n =>
bF .gtr a n fun o =>
f (Q9 [(15,(.v a)),(16,(.v a0)),(17,(.v g)),(18,(.v h)),(19,(.v i)),(20,(.v j)),(21,(.v a0)),(22,(.v k)),(23,(.v l)),(24,(.v m)),(25,(.v n)),(26,(.v o))]) e) e (fun e f =>
gF d true (fun g =>
oF (Qc (b 14).pv (.bool true) (e 26).pv) fun b =>
g (Q9 [(27,(.v b))]) f) f (fun b e =>
oF (Qc d (b 27).pv (.bool false)) fun b =>
Q3 b (
Q0 W 85 [a0,(nI 2)] e (fun b b =>
kF [(0,a0),(3,a)] c b) (pNR R)) (
kF [(0,a0),(3,a)] c e))))) (fun a b =>
lF (a 0) 2 b fun c =>
bF .neq c (nI 0) fun c =>
Q3 c (
wkR σ (nI 0) b R) (
wkR σ (a 3) b R))) (pNR R)
theorem EW (W : Q8) (a0 : PV) (σ : St) (R : Res → St → Prop) : Qn (Qq W) Tryz.prog QO 187 [a0] σ R = Bc Tryz.prog W a0 σ R := by kernel_rfl
def B0 (Pr : Program) (W : Q8) (a0 : PV) (σ : St) (R : Res → St → Prop) : Prop :=
Q0 W 187 [a0] σ (fun a b =>
X6 σ (fun c =>
QC [(0,a0),(3,a),(4,nL),(5,nI 0)] fun a =>
Lfp σ (fun d e f =>
bF .lss (e 5) (e 3) fun g =>
gF g true (fun h =>
oF (Vb (e 0)) fun i =>
oF (Qh 2 i) fun j =>
oF (Q4 false 1 j f) fun k =>
bF .eql k (nI 0) fun l =>
h (Q9 [(13,(.v (e 0))),(14,(.v i)),(15,(.v j)),(16,(.v k)),(17,(.v l))]) f) f (fun f h =>
oF (Qc g (f 17).pv (.bool false)) fun f =>
Q3 f (
Q0 W 190 [(e 0)] h (fun f g =>
uF (.agg [(nI 0),(nI 0),(nI 0),(nI 0),(.bool false)]) 0 f fun f =>
Q0 W 190 [(e 0)] g (fun g i =>
uF f 1 g fun f =>
Q0 W 190 [(e 0)] i (fun g i =>
uF f 2 g fun f =>
Q0 W 190 [(e 0)] i (fun g i =>
uF f 3 g fun f =>
Q0 W 195 [(e 0)] i (fun g i =>
uF f 4 g fun f =>
oF (Q6 true 5 f 0) fun f =>
mF 5 (.agg [(nI 0),(nI 0),(nI 0),(nI 0),(.bool false)]) f fun f =>
XE (QM 5 40 (e 4) (.list .full f) i) fun f g =>
bF .add (e 5) (nI 1) fun i =>
kF [(0,e 0),(3,e 3),(4,f),(5,i)] d g) (pNR R)) (pNR R)) (pNR R)) (pNR R)) (pNR R)) (
kF [(4,e 4)] c h))) a b) (fun a b =>
wkR σ (a 4) b R)) (pNR R)
theorem Ef (W : Q8) (a0 : PV) (σ : St) (R : Res → St → Prop) : Qn (Qq W) Tryz.prog QO 188 [a0] σ R = B0 Tryz.prog W a0 σ R := by kernel_rfl
def AT (Pr : Program) (W : Q8) (a0 : PV) (σ : St) (R : Res → St → Prop) : Prop :=
Q0 W 187 [a0] σ (fun a b =>
X6 σ (fun c =>
QC [(0,a0),(3,a),(4,nL),(5,nI 0)] fun a =>
Lfp σ (fun d e f =>
bF .lss (e 5) (e 3) fun g =>
gF g true (fun h =>
oF (Vb (e 0)) fun i =>
oF (Qh 2 i) fun j =>
oF (Q4 false 1 j f) fun k =>
bF .eql k (nI 0) fun l =>
h (Q9 [(12,(.v (e 0))),(13,(.v i)),(14,(.v j)),(15,(.v k)),(16,(.v l))]) f) f (fun f h =>
oF (Qc g (f 16).pv (.bool false)) fun f =>
Q3 f (
Q0 W 256 [(e 0)] h (fun f g =>
mF 1 nL f fun f =>
XE (QM 1 24 (e 4) (.list .full f) g) fun f g =>
bF .add (e 5) (nI 1) fun i =>
kF [(0,e 0),(3,e 3),(4,f),(5,i)] d g) (pNR R)) (
kF [(4,e 4)] c h))) a b) (fun a b =>
wkR σ (a 4) b R)) (pNR R)
theorem ER (W : Q8) (a0 : PV) (σ : St) (R : Res → St → Prop) : Qn (Qq W) Tryz.prog QO 189 [a0] σ R = AT Tryz.prog W a0 σ R := by kernel_rfl
def Bl (Pr : Program) (W : Q8) (a0 : PV) (σ : St) (R : Res → St → Prop) : Prop :=
Q0 W 193 [a0] σ (fun a b =>
wkR σ a b R) (pNR R)
theorem Fw (W : Q8) (a0 : PV) (σ : St) (R : Res → St → Prop) : Qn (Qq W) Tryz.prog QO 190 [a0] σ R = Bl Tryz.prog W a0 σ R := by kernel_rfl
def CX (Pr : Program) (W : Q8) (a0 : PV) (σ : St) (R : Res → St → Prop) : Prop :=
Q0 W 190 [a0] σ (fun a b =>
uF (.agg [(nI 0),(nI 0),(nI 0),(nI 0),(nI 0),(nI 0),(nI 0),(nI 0),nL]) 0 a fun a =>
Q0 W 190 [a0] b (fun b c =>
uF a 1 b fun a =>
Q0 W 190 [a0] c (fun b c =>
uF a 2 b fun a =>
Q0 W 190 [a0] c (fun b c =>
uF a 3 b fun a =>
Q0 W 190 [a0] c (fun b c =>
uF a 4 b fun a =>
Q0 W 190 [a0] c (fun b c =>
uF a 5 b fun a =>
Q0 W 190 [a0] c (fun b c =>
uF a 6 b fun a =>
Q0 W 190 [a0] c (fun b c =>
uF a 7 b fun a =>
Q0 W 187 [a0] c (fun b c =>
X6 σ (fun d =>
QC [(0,a0),(4,b),(5,nI 0),(2,(.agg [(nI 0),(nI 0),(nI 0),(nI 0),(nI 0),(nI 0),(nI 0),(nI 0),nL])),(3,a)] fun a =>
Lfp σ (fun b e f =>
bF .lss (e 5) (e 4) fun g =>
gF g true (fun h =>
oF (Vb (e 0)) fun i =>
oF (Qh 2 i) fun j =>
oF (Q4 false 1 j f) fun k =>
bF .eql k (nI 0) fun l =>
h (Q9 [(37,(.v (e 0))),(38,(.v i)),(39,(.v j)),(40,(.v k)),(41,(.v l))]) f) f (fun f h =>
oF (Qc g (f 41).pv (.bool false)) fun f =>
Q3 f (
Q0 W 190 [(e 0)] h (fun f g =>
uF (.agg [(nI 0),(nI 0),(nI 0)]) 0 f fun f =>
Q0 W 190 [(e 0)] g (fun g i =>
uF f 1 g fun f =>
Q0 W 190 [(e 0)] i (fun g i =>
uF f 2 g fun f =>
pF (e 3) 8 fun g =>
oF (Q6 true 3 f 0) fun f =>
mF 3 (.agg [(nI 0),(nI 0),(nI 0)]) f fun f =>
XE (QM 3 24 g (.list .full f) i) fun f g =>
uF (e 3) 8 f fun f =>
bF .add (e 5) (nI 1) fun i =>
kF [(0,e 0),(4,e 4),(5,i),(2,e 2),(3,f)] b g) (pNR R)) (pNR R)) (pNR R)) (
kF [(2,e 2),(3,e 3)] d h))) a c) (fun a b =>
oF (Q6 true 9 (a 3) 0) fun c =>
oF (Qv 9 (a 2) 0 c) fun a =>
wvR σ (Qs (Q6 true 9 a 0) (some [])) b R)) (pNR R)) (pNR R)) (pNR R)) (pNR R)) (pNR R)) (pNR R)) (pNR R)) (pNR R)) (pNR R)
theorem EO (W : Q8) (a0 : PV) (σ : St) (R : Res → St → Prop) : Qn (Qq W) Tryz.prog QO 191 [a0] σ R = CX Tryz.prog W a0 σ R := by kernel_rfl
def Cq (Pr : Program) (W : Q8) (a0 : PV) (σ : St) (R : Res → St → Prop) : Prop :=
Q0 W 190 [a0] σ (fun a b =>
Q0 W 190 [a0] b (fun b c =>
Q0 W 190 [a0] c (fun c d =>
oF (QF [(nI 0),(nI 0),(nI 0)] [(0,1,a),(1,1,b),(2,1,c)]) fun a =>
oF (Qv 3 (.agg [(nI 0),(nI 0),(nI 0)]) 0 (.agg a)) fun a =>
wvR σ (Qs (Q6 true 3 a 0) (some [])) d R) (pNR R)) (pNR R)) (pNR R)
theorem Fe (W : Q8) (a0 : PV) (σ : St) (R : Res → St → Prop) : Qn (Qq W) Tryz.prog QO 192 [a0] σ R = Cq Tryz.prog W a0 σ R := by kernel_rfl
def BB (Pr : Program) (W : Q8) (a0 : PV) (σ : St) (R : Res → St → Prop) : Prop :=
X6 σ (fun a =>
QC [(0,a0),(3,(.int .u64 0)),(4,nI 0)] fun b =>
Lfp σ (fun c d e =>
lF (d 0) 1 e fun f =>
lF (d 0) 0 e fun g =>
oF (Qj .str g e) fun g =>
bF .geq f g fun f =>
Q3 f (
Q0 W 85 [(d 0),(nI 16)] e (fun f f =>
wkR σ (nI 0) f R) (pNR R)) (
lF (d 0) 0 e fun f =>
lF (d 0) 1 e fun g =>
oF (Xt f g) fun f =>
lF (d 0) 1 e fun g =>
bF .add g (nI 1) fun g =>
sF (d 0) 1 g e fun e =>
bF .eql (d 4) (nI 9) fun g =>
gF g true (fun h =>
bF .gtr f (.int .u8 1) fun i =>
h (Q9 [(40,(.v f)),(41,(.v i))]) e) e (fun e h =>
oF (Qc g (e 41).pv (.bool false)) fun e =>
gF e false (fun g =>
bF .gtr (d 4) (nI 0) fun i =>
g (Q9 [(44,(.v (d 4))),(45,(.v i)),(46,(.v i))]) h) h (fun g h =>
gF (g 46).pv true (fun i =>
bF .eql f (.int .u8 0) fun j =>
i (Q9 [(47,(.v f)),(48,(.v j))]) h) h (fun h i =>
gF e false (fun j =>
oF (Qc (g 46).pv (h 48).pv (.bool false)) fun g =>
j (Q9 [(49,(.v g))]) i) i (fun g h =>
oF (Qc e (.bool true) (g 49).pv) fun e =>
Q3 e (
Q0 W 85 [(d 0),(nI 2)] h (fun e e =>
wkR σ (nI 0) e R) (pNR R)) (
bF .and f (.int .u8 127) fun e =>
oF (XY .u64 e) fun e =>
bF .mul (nI 7) (d 4) fun g =>
bF .shl e g fun e =>
bF .or (d 3) e fun e =>
bF .lss f (.int .u8 128) fun f =>
Q3 f (
kF [(3,e)] a h) (
bF .add (d 4) (nI 1) fun a =>
kF [(0,d 0),(3,e),(4,a)] c h)))))))) b σ) (fun a b =>
bF .shr (a 3) (.int .u64 1) fun c =>
oF (XY .i64 c) fun c =>
bF .and (a 3) (.int .u64 1) fun a =>
bF .eql a (.int .u64 1) fun a =>
Q3 a (
oF (vUn .xor c) fun a =>
wkR σ a b R) (
wkR σ c b R))
theorem EX (W : Q8) (a0 : PV) (σ : St) (R : Res → St → Prop) : Qn (Qq W) Tryz.prog QO 193 [a0] σ R = BB Tryz.prog W a0 σ R := by kernel_rfl
def Cv (Pr : Program) (W : Q8) (a0 : PV) (σ : St) (R : Res → St → Prop) : Prop :=
Q0 W 187 [a0] σ (fun a b =>
lF a0 0 b fun c =>
lF a0 1 b fun d =>
lF a0 1 b fun e =>
bF .add e a fun e =>
oF (Xg c (some d) (some e)) fun c =>
lF a0 1 b fun d =>
bF .add d a fun a =>
sF a0 1 a b fun a =>
wkR σ c a R) (pNR R)
theorem FX (W : Q8) (a0 : PV) (σ : St) (R : Res → St → Prop) : Qn (Qq W) Tryz.prog QO 194 [a0] σ R = Cv Tryz.prog W a0 σ R := by kernel_rfl
def B1 (Pr : Program) (W : Q8) (a0 : PV) (σ : St) (R : Res → St → Prop) : Prop :=
Q0 W 193 [a0] σ (fun a b =>
X6 σ (fun c =>
bF .neq a (nI 0) fun d =>
gF d true (fun e =>
bF .neq a (nI 1) fun f =>
e (Q9 [(9,(.v a)),(10,(.v f))]) b) b (fun b e =>
oF (Qc d (b 10).pv (.bool false)) fun b =>
Q3 b (
Q0 W 85 [a0,(nI 2)] e (fun b b =>
kF [(3,a)] c b) (pNR R)) (
kF [(3,a)] c e))) (fun a b =>
bF .eql (a 3) (nI 1) fun a =>
wkR σ a b R)) (pNR R)
theorem F8 (W : Q8) (a0 : PV) (σ : St) (R : Res → St → Prop) : Qn (Qq W) Tryz.prog QO 195 [a0] σ R = B1 Tryz.prog W a0 σ R := by kernel_rfl
def Bv (Pr : Program) (W : Q8) (a0 : PV) (σ : St) (R : Res → St → Prop) : Prop :=
Q0 W 252 [a0] σ (fun a b =>
X6 σ (fun c =>
bF .lss a (nI 0) fun d =>
gF d false (fun e =>
oF (Vb a0) fun f =>
oF (Qh 0 f) fun g =>
oF (Q4 false 1 g b) fun h =>
oF (Qj .sl h b) fun i =>
bF .gtr a i fun j =>
e (Q9 [(9,(.v a)),(10,(.v a0)),(11,(.v f)),(12,(.v g)),(13,(.v h)),(14,(.v i)),(15,(.v j))]) b) b (fun b e =>
oF (Qc d (.bool true) (b 15).pv) fun b =>
Q3 b (
Q0 W 255 [(nI 2)] e (fun b b =>
kF [(3,a)] c b) (pNR R)) (
kF [(3,a)] c e))) (fun a b =>
wkR σ (a 3) b R)) (pNR R)
theorem GV (W : Q8) (a0 : PV) (σ : St) (R : Res → St → Prop) : Qn (Qq W) Tryz.prog QO 250 [a0] σ R = Bv Tryz.prog W a0 σ R := by kernel_rfl
def ur (Pr : Program) (W : Q8) (a0 a1 : PV) (σ : St) (R : Res → St → Prop) : Prop :=
Q0 W 250 [a0] σ (fun a b =>
QC [(1,a1),(5,nL),(7,a),(8,nI 0)] fun a =>
Lfp σ (fun c d e =>
bF .lss (d 8) (d 7) fun f =>
Q3 f (
Zc (Qq W) Pr false (d 1) [] e (fun f g =>
mF 1 (nI 0) f fun f =>
XE (QM 1 8 (d 5) (.list .full f) g) fun f g =>
bF .add (d 8) (nI 1) fun h =>
kF [(1,d 1),(5,f),(7,d 7),(8,h)] c g) (pNR R)) (
wkR σ (d 5) e R)) a b) (pNR R)
theorem Ev (W : Q8) (a0 a1 : PV) (σ : St) (R : Res → St → Prop) : Qn (Qq W) Tryz.prog QO 251 [a0,a1] σ R = ur Tryz.prog W a0 a1 σ R := by kernel_rfl
def Bj (Pr : Program) (W : Q8) (a0 : PV) (σ : St) (R : Res → St → Prop) : Prop :=
X6 σ (fun a =>
QC [(0,a0),(3,(.int .u64 0)),(4,nI 0)] fun b =>
Lfp σ (fun c d e =>
X6 σ (fun f =>
X6 σ (fun g =>
lF (d 0) 0 e fun h =>
oF (Qj .sl h e) fun h =>
bF .eql h (nI 0) fun h =>
Q3 h (
Q0 W 255 [(nI 16)] e (fun h h =>
kF [(0,d 0),(3,d 3),(4,d 4)] g h) (pNR R)) (
kF [(0,d 0),(3,d 3),(4,d 4)] g e)) (fun d e =>
lF (d 0) 0 e fun g =>
oF (Q5 1 g (nI 0)) fun g =>
oF (Q4 false 1 g e) fun g =>
lF (d 0) 0 e fun h =>
oF (XN 1 h (some (nI 1)) none) fun h =>
sF (d 0) 0 h e fun e =>
X6 σ (fun h =>
bF .eql (d 4) (nI 9) fun i =>
gF i true (fun j =>
bF .gtr g (.int .u8 1) fun k =>
j (Q9 [(33,(.v g)),(34,(.v k))]) e) e (fun e j =>
oF (Qc i (e 34).pv (.bool false)) fun e =>
gF e false (fun i =>
bF .gtr (d 4) (nI 0) fun k =>
i (Q9 [(37,(.v (d 4))),(38,(.v k)),(39,(.v k))]) j) j (fun i j =>
gF (i 39).pv true (fun k =>
bF .eql g (.int .u8 0) fun l =>
k (Q9 [(40,(.v g)),(41,(.v l))]) j) j (fun j k =>
gF e false (fun l =>
oF (Qc (i 39).pv (j 41).pv (.bool false)) fun i =>
l (Q9 [(42,(.v i))]) k) k (fun i j =>
oF (Qc e (.bool true) (i 42).pv) fun e =>
Q3 e (
Q0 W 255 [(nI 2)] j (fun e e =>
kF [(0,d 0),(3,d 3),(4,d 4),(5,g)] h e) (pNR R)) (
kF [(0,d 0),(3,d 3),(4,d 4),(5,g)] h j)))))) (fun d e =>
bF .and (d 5) (.int .u8 127) fun g =>
oF (XY .u64 g) fun g =>
bF .mul (nI 7) (d 4) fun h =>
bF .shl g h fun g =>
bF .or (d 3) g fun g =>
bF .lss (d 5) (.int .u8 128) fun h =>
Q3 h (
kF [(3,g)] a e) (
kF [(0,d 0),(3,g),(4,d 4)] f e)))) (fun a d =>
bF .add (a 4) (nI 1) fun e =>
kF [(0,a 0),(3,a 3),(4,e)] c d)) b σ) (fun a b =>
bF .shr (a 3) (.int .u64 1) fun c =>
oF (XY .i64 c) fun c =>
X6 σ (fun d =>
bF .and (a 3) (.int .u64 1) fun a =>
bF .neq a (.int .u64 0) fun a =>
Q3 a (
oF (vUn .xor c) fun a =>
kF [(6,a)] d b) (
kF [(6,c)] d b)) (fun a b =>
wkR σ (a 6) b R))
theorem En (W : Q8) (a0 : PV) (σ : St) (R : Res → St → Prop) : Qn (Qq W) Tryz.prog QO 252 [a0] σ R = Bj Tryz.prog W a0 σ R := by kernel_rfl
def qi (Pr : Program) (W : Q8) (a0 a1 : PV) (σ : St) (R : Res → St → Prop) : Prop :=
Q0 W 250 [a0] σ (fun a b =>
QC [(1,a1),(5,nL),(7,a),(8,nI 0)] fun a =>
Lfp σ (fun c d e =>
bF .lss (d 8) (d 7) fun f =>
Q3 f (
Zc (Qq W) Pr false (d 1) [] e (fun f g =>
mF 3 (.agg [(nI 0),(nI 0),(nI 0)]) f fun f =>
XE (QM 3 24 (d 5) (.list .full f) g) fun f g =>
bF .add (d 8) (nI 1) fun h =>
kF [(1,d 1),(5,f),(7,d 7),(8,h)] c g) (pNR R)) (
wkR σ (d 5) e R)) a b) (pNR R)
theorem FR (W : Q8) (a0 a1 : PV) (σ : St) (R : Res → St → Prop) : Qn (Qq W) Tryz.prog QO 253 [a0,a1] σ R = qi Tryz.prog W a0 a1 σ R := by kernel_rfl
def B3 (Pr : Program) (W : Q8) (a0 : PV) (σ : St) (R : Res → St → Prop) : Prop :=
oF (Q4 false 1 a0 σ) fun a =>
Q0 W 175 [a] σ (fun a b =>
oF (QF [(nI 0),(nI 0),(nI 0)] [(0,1,a)]) fun a =>
oF (Qv 3 (.agg [(nI 0),(nI 0),(nI 0)]) 0 (.agg a)) fun a =>
oF (Q4 false 1 a0 b) fun c =>
Q0 W 175 [c] b (fun b c =>
uF a 1 b fun a =>
oF (Q4 false 1 a0 c) fun b =>
Q0 W 175 [b] c (fun b c =>
uF a 2 b fun a =>
oF (Q6 true 3 a 0) fun a =>
oF (Qv 3 (.agg [(nI 0),(nI 0),(nI 0)]) 0 a) fun a =>
wvR σ (Qs (Q6 true 3 a 0) (some [])) c R) (pNR R)) (pNR R)) (pNR R)
theorem Fx (W : Q8) (a0 : PV) (σ : St) (R : Res → St → Prop) : Qn (Qq W) Tryz.prog QO 254 [a0] σ R = B3 Tryz.prog W a0 σ R := by kernel_rfl
def Cu (Pr : Program) (W : Q8) (a0 : PV) (σ : St) (R : Res → St → Prop) : Prop :=
oF (QF [(nI 0)] [(0,1,a0)]) fun a =>
Jm (.iface 140 (.agg a)) fun a => R (.pan a) σ
theorem Gj (W : Q8) (a0 : PV) (σ : St) (R : Res → St → Prop) : Qn (Qq W) Tryz.prog QO 255 [a0] σ R = Cu Tryz.prog W a0 σ R := by kernel_rfl
def xg (Pr : Program) (W : Q8) (a0 : PV) (σ : St) (R : Res → St → Prop) : Prop :=
Q0 W 187 [a0] σ (fun a b =>
X6 σ (fun c =>
QC [(0,a0),(3,a),(4,nL),(5,nI 0)] fun a =>
Lfp σ (fun d e f =>
bF .lss (e 5) (e 3) fun g =>
gF g true (fun h =>
oF (Vb (e 0)) fun i =>
oF (Qh 2 i) fun j =>
oF (Q4 false 1 j f) fun k =>
bF .eql k (nI 0) fun l =>
h (Q9 [(12,(.v (e 0))),(13,(.v i)),(14,(.v j)),(15,(.v k)),(16,(.v l))]) f) f (fun f h =>
oF (Qc g (f 16).pv (.bool false)) fun f =>
Q3 f (
Q0 W 190 [(e 0)] h (fun f g =>
mF 1 (nI 0) f fun f =>
XE (QM 1 8 (e 4) (.list .full f) g) fun f g =>
bF .add (e 5) (nI 1) fun i =>
kF [(0,e 0),(3,e 3),(4,f),(5,i)] d g) (pNR R)) (
kF [(4,e 4)] c h))) a b) (fun a b =>
wkR σ (a 4) b R)) (pNR R)
theorem GB (W : Q8) (a0 : PV) (σ : St) (R : Res → St → Prop) : Qn (Qq W) Tryz.prog QO 256 [a0] σ R = xg Tryz.prog W a0 σ R := by kernel_rfl
end Go.Proofs.YtgghfcchanilpaaGreatDoor
