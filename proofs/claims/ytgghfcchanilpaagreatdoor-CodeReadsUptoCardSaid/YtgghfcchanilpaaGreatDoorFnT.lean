import Derived.Test.YtgghfcchanilpaaGreatDoorTabL
import Derived.KernelRfl
import Derived.Test.YtgghfcchanilpaaGreatDoorAbsTabA
import Derived.Test.YtgghfcchanilpaaGreatDoorProg
set_option linter.unusedVariables false
set_option linter.unusedSimpArgs false
namespace Go.Proofs.YtgghfcchanilpaaGreatDoor
open Go Go.Abs
structure Ln where
 s : List UInt8
 p : Int
 l : List UInt8
 r : List UInt8
 q : List UInt8
 d : Int
 f : Int
 a : Int
 b : Int
def toLn (x : PV) : Option Ln :=
 match x with
 | .agg [.str s,.int .i64 p,.str l,.str r,.str q,.int .i64 d,.int .i64 f,.int .i64 a,.int .i64 b] => some ⟨s,p,l,r,q,d,f,a,b⟩
 | _ => none
def Yk (x : Ln) : PV := .agg [.str x.s,.int .i64 x.p,.str x.l,.str x.r,.str x.q,.int .i64 x.d,.int .i64 x.f,.int .i64 x.a,.int .i64 x.b]
def lns : List Ln := (Z4 ++ XV ++ Yz).filterMap toLn
theorem BN : lns.map Yk = Z4 ++ XV ++ Yz := by kernel_rfl
def Ln.ok (x : Ln) : Bool := x.s.all (fun c => decide (c.toNat < 128)) && (decide (x.s.length < 100) && (decide (0 ≤ x.a) && (decide (x.a ≤ x.b) && (decide (x.b < 3) && (decide (0 ≤ x.f) && decide (x.f < 500))))))
theorem BJ : lns.all Ln.ok = true := by kernel_rfl
def Ln.cnt (x : Ln) : Nat := (Go.Lib.fields x.s).length * (x.b - x.a + 1).toNat
theorem Cg : (lns.map Ln.cnt).sum = 470 := by kernel_rfl
def Ln.OE (x : Ln) : List Int := (List.range (x.b - x.a + 1).toNat).map fun (i : Nat) => x.a + (i : Int)
def PM : List (List UInt8 × Int) := (lns.flatMap fun x => [x.l,x.r,x.q].flatMap fun s => x.OE.map fun k => (s,k)).eraseDups
theorem G0 : PM.all (fun m => S1 m.1 m.2) = true := by kernel_rfl
theorem HJ : lns.all (fun x => x.OE.all fun k => PM.contains (x.l,k) && (PM.contains (x.r,k) && PM.contains (x.q,k))) = true := by kernel_rfl
end Go.Proofs.YtgghfcchanilpaaGreatDoor
namespace Go.Proofs.YtgghfcchanilpaaGreatDoor
open Go Go.Abs
def zw (Pr : Program) (W : Q8) (σ : St) (R : Res → St → Prop) : Prop :=
Q0 W 97 [] σ (fun a b =>
oF (Qj .sl a b) fun c =>
QC [(1,nL),(7,a),(8,c),(9,nI 0)] fun a =>
Lfp σ (fun c d e =>
bF .lss (d 9) (d 8) fun f =>
Q3 f (
oF (Q5 9 (d 7) (d 9)) fun f =>
oF (Q4 true 9 f e) fun f =>
oF (Qv 9 (.agg [(.str []),(nI 0),(.str []),(.str []),(.str []),(nI 0),(nI 0),(nI 0),(nI 0)]) 0 f) fun f =>
pF f 0 fun g =>
Q0 W 98 [g] e (fun g h =>
oF (Qj .sl g h) fun i =>
QC [(1,d 1),(7,d 7),(8,d 8),(9,d 9),(15,g),(16,i),(17,nI 0),(3,f)] fun f =>
Lfp σ (fun g i j =>
bF .lss (i 17) (i 16) fun k =>
Q3 k (
oF (Q5 1 (i 15) (i 17)) fun k =>
oF (Q4 false 1 k j) fun k =>
pF (i 3) 7 fun l =>
QC [(1,i 1),(5,k),(6,l),(7,i 7),(8,i 8),(9,i 9),(15,i 15),(16,i 16),(17,i 17),(3,i 3)] fun k =>
Lfp σ (fun l m n =>
pF (m 3) 8 fun o =>
bF .leq (m 6) o fun o =>
Q3 o (
oF (Q6 true 9 (m 3) 0) fun o =>
Q0 W 99 [o,(m 5),(m 6)] n (fun o p =>
mF 7 (.agg [(.str []),(.str []),(.str []),(.str []),(nI 0),(nI 0),(nI 0)]) o fun o =>
XE (QM 7 88 (m 1) (.list .full o) p) fun o p =>
bF .add (m 6) (nI 1) fun q =>
kF [(1,o),(5,m 5),(6,q),(7,m 7),(8,m 8),(9,m 9),(15,m 15),(16,m 16),(17,m 17),(3,m 3)] l p) (pNR R)) (
bF .add (m 17) (nI 1) fun l =>
kF [(1,m 1),(7,m 7),(8,m 8),(9,m 9),(15,m 15),(16,m 16),(17,l),(3,m 3)] g n)) k j) (
bF .add (i 9) (nI 1) fun g =>
kF [(1,i 1),(7,i 7),(8,i 8),(9,g)] c j)) f h) (pNR R)) (
wkR σ (d 1) e R)) a b) (pNR R)
theorem DS (W : Q8) (σ : St) (R : Res → St → Prop) : Qn (Qq W) Tryz.prog VW 56 [] σ R = zw Tryz.prog W  σ R := by kernel_rfl
def wG (Pr : Program) (W : Q8) (σ : St) (R : Res → St → Prop) : Prop :=
X6 σ (fun a =>
Q0 W 127 [] σ (fun b c =>
oF (Qj .sl b c) fun d =>
QC [(1,nL),(11,b),(12,d),(13,nI 0)] fun b =>
Lfp σ (fun d e f =>
bF .lss (e 13) (e 12) fun g =>
Q3 g (
X6 σ (fun g =>
oF (Q5 6 (e 11) (e 13)) fun h =>
oF (Q4 true 6 h f) fun h =>
oF (Qv 6 (.agg [(.str []),(nI 0),(.str []),(.str []),(.str []),(nI 0)]) 0 h) fun h =>
oF (Qj .sl (e 1) f) fun i =>
X6 σ (fun j =>
oF (Q6 true 6 h 0) fun k =>
Q0 W 128 [k,(.str [76])] f (fun k l =>
Q3 k (
kF [(1,e 1),(4,i),(5,nI 3),(6,nI 0),(11,e 11),(12,e 12),(13,e 13),(3,h)] j l) (
kF [(1,e 1),(4,i),(5,nI 1),(6,nI 1),(11,e 11),(12,e 12),(13,e 13),(3,h)] j l)) (pNR R)) (fun h i =>
X6 σ (fun j =>
oF (Q6 true 6 (h 3) 0) fun k =>
Q0 W 128 [k,(.str [83])] i (fun i k =>
Q3 i (
kF [(1,h 1),(4,h 4),(5,nI 2),(6,nI 0),(11,h 11),(12,h 12),(13,h 13),(3,h 3)] j k) (
kF [(1,h 1),(4,h 4),(5,h 5),(6,h 6),(11,h 11),(12,h 12),(13,h 13),(3,h 3)] j k)) (pNR R)) (fun h i =>
pF (h 3) 0 fun j =>
Q0 W 48 [j,(.str [32])] i (fun i j =>
oF (Qj .sl i j) fun k =>
QC [(1,h 1),(4,h 4),(5,h 5),(6,h 6),(11,h 11),(12,h 12),(13,h 13),(25,i),(26,k),(27,nI 0),(3,h 3)] fun h =>
Lfp σ (fun i k l =>
bF .lss (k 27) (k 26) fun m =>
Q3 m (
X6 σ (fun m =>
oF (Q5 1 (k 25) (k 27)) fun n =>
oF (Q4 false 1 n l) fun n =>
QC [(1,k 1),(4,k 4),(5,k 5),(6,k 6),(8,n),(9,nI 0),(11,k 11),(12,k 12),(13,k 13),(25,k 25),(26,k 26),(27,k 27),(3,k 3)] fun n =>
Lfp σ (fun o p q =>
bF .lss (p 9) (p 5) fun r =>
Q3 r (
oF (Q6 true 6 (p 3) 0) fun r =>
bF .add (p 6) (p 9) fun s =>
Q0 W 129 [r,(p 8),s] q (fun r s =>
oF (Qv 7 (.agg [(.str []),(.str []),(.str []),(.str []),(nI 0),(nI 0),(nI 0)]) 0 r) fun r =>
bF .add (p 4) (p 9) fun t =>
uF r 6 t fun r =>
oF (Q6 true 7 r 0) fun r =>
mF 7 (.agg [(.str []),(.str []),(.str []),(.str []),(nI 0),(nI 0),(nI 0)]) r fun r =>
XE (QM 7 88 (p 1) (.list .full r) s) fun r s =>
bF .add (p 9) (nI 1) fun t =>
kF [(1,r),(4,p 4),(5,p 5),(6,p 6),(8,p 8),(9,t),(11,p 11),(12,p 12),(13,p 13),(25,p 25),(26,p 26),(27,p 27),(3,p 3)] o s) (pNR R)) (
kF [(1,p 1),(4,p 4),(5,p 5),(6,p 6),(11,p 11),(12,p 12),(13,p 13),(25,p 25),(26,p 26),(27,p 27),(3,p 3)] m q)) n l) (fun m n =>
bF .add (m 27) (nI 1) fun o =>
kF [(1,m 1),(4,m 4),(5,m 5),(6,m 6),(11,m 11),(12,m 12),(13,m 13),(25,m 25),(26,m 26),(27,o),(3,m 3)] i n)) (
kF [(1,k 1),(11,k 11),(12,k 12),(13,k 13)] g l)) h j) (pNR R)))) (fun g h =>
bF .add (g 13) (nI 1) fun i =>
kF [(1,g 1),(11,g 11),(12,g 12),(13,i)] d h)) (
kF [(1,e 1)] a f)) b c) (pNR R)) (fun a b =>
wkR σ (a 1) b R)
theorem Dg (W : Q8) (σ : St) (R : Res → St → Prop) : Qn (Qq W) Tryz.prog VW 68 [] σ R = wG Tryz.prog W  σ R := by kernel_rfl
def xp (Pr : Program) (W : Q8) (σ : St) (R : Res → St → Prop) : Prop :=
Q0 W 209 [] σ (fun a b =>
Q0 W 210 [] b (fun b c =>
XE (QM 9 104 a b c) fun a b =>
Q0 W 211 [] b (fun b c =>
XE (QM 9 104 a b c) fun a b =>
wkR σ a b R) (pNR R)) (pNR R)) (pNR R)
theorem DY (W : Q8) (σ : St) (R : Res → St → Prop) : Qn (Qq W) Tryz.prog VW 97 [] σ R = xp Tryz.prog W  σ R := by kernel_rfl
def xA (Pr : Program) (W : Q8) (a0 a1 a2 : PV) (σ : St) (R : Res → St → Prop) : Prop :=
oF (opC.vBoxAny a0) fun a =>
oF (Q6 true 9 a.2 0) fun b =>
pF a.2 2 fun c =>
oF (Q6 true 9 a.2 0) fun d =>
pF a.2 3 fun e =>
oF (Q6 true 9 a.2 0) fun f =>
pF a.2 4 fun g =>
pF a.2 1 fun h =>
pF a.2 5 fun i =>
pF a.2 6 fun j =>
bF .add j a2 fun j =>
pF a.2 7 fun a =>
bF .sub j a fun a =>
Q0 W 214 [b,c,a2] σ (fun b c =>
Q0 W 214 [d,e,a2] c (fun c d =>
Q0 W 214 [f,g,a2] d (fun d e =>
oF (QF [(.str []),(.str []),(.str []),(.str []),(nI 0),(nI 0),(nI 0)] [(0,1,a1),(1,1,b),(2,1,c),(3,1,d),(4,1,h),(5,1,i),(6,1,a)]) fun a =>
oF (Qv 7 (.agg [(.str []),(.str []),(.str []),(.str []),(nI 0),(nI 0),(nI 0)]) 0 (.agg a)) fun a =>
wvR σ (Qs (Q6 true 7 a 0) (some [])) e R) (pNR R)) (pNR R)) (pNR R)
theorem DC (W : Q8) (a0 a1 a2 : PV) (σ : St) (R : Res → St → Prop) : Qn (Qq W) Tryz.prog VW 99 [a0,a1,a2] σ R = xA Tryz.prog W a0 a1 a2 σ R := by kernel_rfl
def CE (Pr : Program) (W : Q8) (a0 a1 : PV) (σ : St) (R : Res → St → Prop) : Prop :=
Q0 W 220 [a0,a1] σ (fun a b =>
wkR σ a b R) (pNR R)
theorem FT (W : Q8) (a0 a1 : PV) (σ : St) (R : Res → St → Prop) : Qn (Qq W) Tryz.prog VW 103 [a0,a1] σ R = CE Tryz.prog W a0 a1 σ R := by kernel_rfl
def Bd (Pr : Program) (W : Q8) (a0 a1 : PV) (σ : St) (R : Res → St → Prop) : Prop :=
oF (Qj .str a0 σ) fun a =>
oF (Qj .str a1 σ) fun b =>
bF .geq a b fun a =>
XB False a true (fun b =>
oF (Qj .str a1 σ) fun c =>
oF (Xg a0 none (some c)) fun d =>
bF .eql d a1 fun e =>
b (Q9 [(11,(.v a0)),(12,(.v a1)),(13,(.v c)),(14,(.v d)),(15,(.v a1)),(16,(.v e))]) σ) σ (fun b c =>
oF (Qc a (b 16).pv (.bool false)) fun a =>
wkR σ a c R)
theorem Gm (W : Q8) (a0 a1 : PV) (σ : St) (R : Res → St → Prop) : Qn (Qq W) Tryz.prog VW 220 [a0,a1] σ R = Bd Tryz.prog W a0 a1 σ R := by kernel_rfl
def B8 (Pr : Program) (W : Q8) (a0 a1 : PV) (σ : St) (R : Res → St → Prop) : Prop :=
oF (opC.vBoxAny a0) fun a =>
X6 σ (fun b =>
pF a.2 2 fun c =>
pF a.2 3 fun d =>
pF a.2 4 fun a =>
oF (QI 1 (List.replicate 3 (.str [])) [(0,c),(1,d),(2,a)]) fun a =>
oF (Qj .sl (.list .full a) σ) fun c =>
QC [(1,a1),(13,(.list .full a)),(14,c),(15,nI 0)] fun a =>
Lfp σ (fun c d e =>
bF .lss (d 15) (d 14) fun f =>
Q3 f (
oF (Q5 1 (d 13) (d 15)) fun f =>
oF (Q4 false 1 f e) fun f =>
bF .add (d 1) (.str [32]) fun g =>
Q0 W 103 [f,g] e (fun g h =>
XB False g false (fun i =>
bF .add (.str [82,69,70,32]) (d 1) fun j =>
bF .add j (.str [32]) fun k =>
Q0 W 103 [f,k] h (fun l m =>
i (Q9 [(24,(.v f)),(25,(.v (d 1))),(26,(.v j)),(27,(.v k)),(28,(.v l))]) m) (pNR R)) h (fun f h =>
oF (Qc g (.bool true) (f 28).pv) fun f =>
Q3 f (
wkR σ (.bool true) h R) (
bF .add (d 15) (nI 1) fun f =>
kF [(1,d 1),(13,d 13),(14,d 14),(15,f)] c h))) (pNR R)) (
kF [] b e)) a σ) (fun a a =>
wkR σ (.bool false) a R)
theorem D5 (W : Q8) (a0 a1 : PV) (σ : St) (R : Res → St → Prop) : Qn (Qq W) Tryz.prog VW 128 [a0,a1] σ R = B8 Tryz.prog W a0 a1 σ R := by kernel_rfl
def B4 (Pr : Program) (W : Q8) (a0 a1 a2 : PV) (σ : St) (R : Res → St → Prop) : Prop :=
oF (opC.vBoxAny a0) fun a =>
pF a.2 2 fun b =>
pF a.2 3 fun c =>
pF a.2 4 fun d =>
pF a.2 1 fun e =>
pF a.2 5 fun a =>
oF (QF [(.str []),(.str []),(.str []),(.str []),(nI 0),(nI 0),(nI 0)] [(0,1,a1),(1,1,b),(2,1,c),(3,1,d),(4,1,e),(5,1,a)]) fun a =>
oF (Qv 7 (.agg [(.str []),(.str []),(.str []),(.str []),(nI 0),(nI 0),(nI 0)]) 0 (.agg a)) fun a =>
pF a 1 fun b =>
pF a 2 fun c =>
pF a 3 fun d =>
Q0 W 232 [a2] σ (fun e f =>
Q0 W 231 [b,(.str [76]),e] f (fun b e =>
Q0 W 232 [a2] e (fun e f =>
Q0 W 231 [c,(.str [76]),e] f (fun c e =>
Q0 W 232 [a2] e (fun e f =>
Q0 W 231 [d,(.str [76]),e] f (fun d e =>
uF a 1 b fun a =>
uF a 2 c fun a =>
uF a 3 d fun a =>
pF a 2 fun b =>
pF a 3 fun c =>
Q0 W 232 [a2] e (fun d e =>
Q0 W 231 [b,(.str [83]),d] e (fun b d =>
Q0 W 232 [a2] d (fun d e =>
Q0 W 231 [c,(.str [83]),d] e (fun c d =>
uF a 2 b fun a =>
uF a 3 c fun a =>
X6 σ (fun b =>
bF .lss a2 (nI 2) fun c =>
Q3 c (
pF a 2 fun c =>
bF .add a2 (nI 1) fun e =>
pF a 3 fun f =>
bF .add a2 (nI 1) fun g =>
Q0 W 232 [e] d (fun e h =>
Q0 W 231 [c,(.str [78]),e] h (fun c e =>
Q0 W 232 [g] e (fun e g =>
Q0 W 231 [f,(.str [78]),e] g (fun e f =>
uF a 2 c fun c =>
uF c 3 e fun c =>
kF [(6,(.agg [(.str []),(.str []),(.str []),(.str []),(nI 0),(nI 0),(nI 0)])),(7,c)] b f) (pNR R)) (pNR R)) (pNR R)) (pNR R)) (
kF [(6,(.agg [(.str []),(.str []),(.str []),(.str []),(nI 0),(nI 0),(nI 0)])),(7,a)] b d)) (fun a b =>
oF (Q6 true 7 (a 7) 0) fun c =>
oF (Qv 7 (a 6) 0 c) fun a =>
wvR σ (Qs (Q6 true 7 a 0) (some [])) b R)) (pNR R)) (pNR R)) (pNR R)) (pNR R)) (pNR R)) (pNR R)) (pNR R)) (pNR R)) (pNR R)) (pNR R)
theorem GD (W : Q8) (a0 a1 a2 : PV) (σ : St) (R : Res → St → Prop) : Qn (Qq W) Tryz.prog VW 129 [a0,a1,a2] σ R = B4 Tryz.prog W a0 a1 a2 σ R := by kernel_rfl
def Ba (Pr : Program) (W : Q8) (a0 a1 a2 : PV) (σ : St) (R : Res → St → Prop) : Prop :=
bF .add a1 (.str [32]) fun a =>
Q0 W 103 [a0,a] σ (fun a b =>
Q3 a (
oF (Xg a0 (some (nI 2)) none) fun a =>
bF .add a2 a fun a =>
wkR σ a b R) (
bF .add (.str [82,69,70,32]) a1 fun a =>
bF .add a (.str [32]) fun a =>
Q0 W 103 [a0,a] b (fun a b =>
Q3 a (
bF .add (.str [82,69,70,32]) a2 fun a =>
oF (Xg a0 (some (nI 6)) none) fun c =>
bF .add a c fun a =>
wkR σ a b R) (
wkR σ a0 b R)) (pNR R))) (pNR R)
theorem F7 (W : Q8) (a0 a1 a2 : PV) (σ : St) (R : Res → St → Prop) : Qn (Qq W) Tryz.prog VW 231 [a0,a1,a2] σ R = Ba Tryz.prog W a0 a1 a2 σ R := by kernel_rfl
def Bf (Pr : Program) (W : Q8) (a0 : PV) (σ : St) (R : Res → St → Prop) : Prop :=
oF (QI 1 (List.replicate 3 (.str [])) [(0,(.str [83,72,79,82,84,32])),(1,(.str [])),(2,(.str [76,79,78,71,32]))]) fun a =>
oF (Q5 1 (.list .full a) a0) fun a =>
oF (Q4 false 1 a σ) fun a =>
wkR σ a σ R
theorem FN (W : Q8) (a0 : PV) (σ : St) (R : Res → St → Prop) : Qn (Qq W) Tryz.prog VW 232 [a0] σ R = Bf Tryz.prog W a0 σ R := by kernel_rfl
end Go.Proofs.YtgghfcchanilpaaGreatDoor
