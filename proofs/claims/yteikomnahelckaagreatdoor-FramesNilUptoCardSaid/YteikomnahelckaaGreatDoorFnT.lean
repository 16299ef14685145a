import Derived.KernelRfl
import Derived.Test.YteikomnahelckaaGreatDoorAbsTabA
import Derived.Test.YteikomnahelckaaGreatDoorProg
set_option linter.unusedVariables false
set_option linter.unusedSimpArgs false
namespace Go.Proofs.YteikomnahelckaaGreatDoor
open Go Go.Abs
def fn95 (Pr : Program) (W : CallP) (σ : St) (R : Res → St → Prop) : Prop :=
callB W 136 [] σ (fun a b =>
oF (vLen .sl a b) fun c =>
packW [(1,nL),(7,a),(8,c),(9,nI 0)] fun a =>
Lfp σ (fun c d e =>
bF .lss (d 9) (d 8) fun f =>
condW f (
oF (vIndex 9 (d 7) (d 9)) fun f =>
oF (vLoad true 9 f e) fun f =>
oF (vPut 9 (.agg [(.str []),(nI 0),(.str []),(.str []),(.str []),(nI 0),(nI 0),(nI 0),(nI 0)]) 0 f) fun f =>
pF f 0 fun g =>
callB W 137 [g] e (fun g h =>
oF (vLen .sl g h) fun i =>
packW [(1,d 1),(7,d 7),(8,d 8),(9,d 9),(15,g),(16,i),(17,nI 0),(3,f)] fun f =>
Lfp σ (fun g i j =>
bF .lss (i 17) (i 16) fun k =>
condW k (
oF (vIndex 1 (i 15) (i 17)) fun k =>
oF (vLoad false 1 k j) fun k =>
pF (i 3) 7 fun l =>
packW [(1,i 1),(5,k),(6,l),(7,i 7),(8,i 8),(9,i 9),(15,i 15),(16,i 16),(17,i 17),(3,i 3)] fun k =>
Lfp σ (fun l m n =>
pF (m 3) 8 fun o =>
bF .leq (m 6) o fun o =>
condW o (
oF (vPart true 9 (m 3) 0) fun o =>
callB W 138 [o,(m 5),(m 6)] n (fun o p =>
mF 7 (.agg [(.str []),(.str []),(.str []),(.str []),(nI 0),(nI 0),(nI 0)]) o fun o =>
bindS (vAppend 7 88 (m 1) (.list .full o) p) fun o p =>
bF .add (m 6) (nI 1) fun q =>
kF [(1,o),(5,m 5),(6,q),(7,m 7),(8,m 8),(9,m 9),(15,m 15),(16,m 16),(17,m 17),(3,m 3)] l p) (pNR R)) (
bF .add (m 17) (nI 1) fun l =>
kF [(1,m 1),(7,m 7),(8,m 8),(9,m 9),(15,m 15),(16,m 16),(17,l),(3,m 3)] g n)) k j) (
bF .add (i 9) (nI 1) fun g =>
kF [(1,i 1),(7,i 7),(8,i 8),(9,g)] c j)) f h) (pNR R)) (
wkR σ (d 1) e R)) a b) (pNR R)
theorem fn95_eq (W : CallP) (σ : St) (R : Res → St → Prop) : bodyC (algP W) Tryz.prog ann1 95 [] σ R = fn95 Tryz.prog W  σ R := by kernel_rfl
def fn136 (Pr : Program) (W : CallP) (σ : St) (R : Res → St → Prop) : Prop :=
callB W 201 [] σ (fun a b =>
callB W 202 [] b (fun b c =>
bindS (vAppend 9 104 a b c) fun a b =>
callB W 203 [] b (fun b c =>
bindS (vAppend 9 104 a b c) fun a b =>
wkR σ a b R) (pNR R)) (pNR R)) (pNR R)
theorem fn136_eq (W : CallP) (σ : St) (R : Res → St → Prop) : bodyC (algP W) Tryz.prog ann1 136 [] σ R = fn136 Tryz.prog W  σ R := by kernel_rfl
def fn138 (Pr : Program) (W : CallP) (a0 a1 a2 : PV) (σ : St) (R : Res → St → Prop) : Prop :=
oF (opC.vBoxAny a0) fun a =>
oF (vPart true 9 a.2 0) fun b =>
pF a.2 2 fun c =>
oF (vPart true 9 a.2 0) fun d =>
pF a.2 3 fun e =>
oF (vPart true 9 a.2 0) fun f =>
pF a.2 4 fun g =>
pF a.2 1 fun h =>
pF a.2 5 fun i =>
pF a.2 6 fun j =>
bF .add j a2 fun j =>
pF a.2 7 fun a =>
bF .sub j a fun a =>
callB W 206 [b,c,a2] σ (fun b c =>
callB W 206 [d,e,a2] c (fun c d =>
callB W 206 [f,g,a2] d (fun d e =>
oF (vBuild [(.str []),(.str []),(.str []),(.str []),(nI 0),(nI 0),(nI 0)] [(0,1,a1),(1,1,b),(2,1,c),(3,1,d),(4,1,h),(5,1,i),(6,1,a)]) fun a =>
oF (vPut 7 (.agg [(.str []),(.str []),(.str []),(.str []),(nI 0),(nI 0),(nI 0)]) 0 (.agg a)) fun a =>
wvR σ (resCons (vPart true 7 a 0) (some [])) e R) (pNR R)) (pNR R)) (pNR R)
theorem fn138_eq (W : CallP) (a0 a1 a2 : PV) (σ : St) (R : Res → St → Prop) : bodyC (algP W) Tryz.prog ann1 138 [a0,a1,a2] σ R = fn138 Tryz.prog W a0 a1 a2 σ R := by kernel_rfl
end Go.Proofs.YteikomnahelckaaGreatDoor
