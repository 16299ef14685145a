import Derived.KernelRfl
import Derived.Test.YtgghfcchanilpaaGreatDoorAnn
import Derived.Test.YtgghfcchanilpaaGreatDoorProg
set_option linter.unusedVariables false
set_option linter.unusedSimpArgs false
namespace Go.Proofs.YtgghfcchanilpaaGreatDoor
open Go Go.Abs
def fn32 (Pr : Program) (W : CallP) (a0 : PV) (σ : St) (R : Res → St → Prop) : Prop :=
newW 10 (.agg [nL,nL,nL,nL,nL,nL,nL,nL,nL,nL]) σ fun a b =>
newW 1 (nI 0) b fun b c =>
oF (vLen .str a0 c) fun d =>
bF .gtr d (nI 1048576) fun d =>
condW d (
oF (vLoad true 10 a c) fun d =>
oF (vStore 10 a d c) fun d =>
oF (vStore 1 b (nI 3) d) fun d =>
wvR σ (resCons (vLoad true 10 a d) (resCons (vLoad false 1 b d) (some []))) d R) (
oF (vLen .str a0 c) fun d =>
bF .lss d (nI 8) fun d =>
condW d (
oF (vLoad true 10 a c) fun d =>
oF (vStore 10 a d c) fun d =>
oF (vStore 1 b (nI 16) d) fun d =>
wvR σ (resCons (vLoad true 10 a d) (resCons (vLoad false 1 b d) (some []))) d R) (
oF (vSubStr a0 none (some (nI 4))) fun d =>
bF .neq d (.str [69,78,86,49]) fun d =>
condW d (
oF (vLoad true 10 a c) fun d =>
oF (vStore 10 a d c) fun d =>
oF (vStore 1 b (nI 13) d) fun d =>
wvR σ (resCons (vLoad true 10 a d) (resCons (vLoad false 1 b d) (some []))) d R) (
oF (vLen .str a0 c) fun d =>
bF .sub d (nI 4) fun d =>
oF (vSubStr a0 none (some d)) fun d =>
bindS (vToBytes 23 d c) fun c d =>
oF (vLen .str a0 []) fun e =>
bF .sub e (nI 4) fun e =>
oF (vSubStr a0 (some e) none) fun e =>
callB W 79 [c] d (fun d f =>
callB W 78 [d] f (fun d f =>
oF (vToStr d f) fun d =>
bF .neq d e fun d =>
condW d (
oF (vLoad true 10 a f) fun d =>
oF (vStore 10 a d f) fun d =>
oF (vStore 1 b (nI 15) d) fun d =>
wvR σ (resCons (vLoad true 10 a d) (resCons (vLoad false 1 b d) (some []))) d R) (
oF (vSubSl 1 c (some (nI 4)) none) fun c =>
oF (vBuild [nL] [(0,1,c)]) fun c =>
oF (opC.vBoxAny (.agg c)) fun c =>
if 0 < c.1 then newW c.1 c.2 f fun c d =>
callB W 82 [c] d (fun d e =>
oF (vStore 10 a d e) fun d =>
lF c 0 d fun c =>
oF (vLen .sl c d) fun c =>
bF .gtr c (nI 0) fun c =>
condW c (
oF (vBuild [nL,nL,nL,nL,nL,nL,nL,nL,nL,nL] []) fun c =>
oF (vStore 10 a (.agg c) d) fun c =>
oF (vStore 1 b (nI 2) c) fun c =>
oF (vBin (some .ifc) .eql .nilIface .nilIface) fun e =>
condW e (
wvR σ (resCons (vLoad true 10 a c) (resCons (vLoad false 1 b c) (some []))) c R) (
oF (vAssert 140 (.agg [(nI 0)]) true .nilIface) fun e =>
oF (vExtract e 1) fun f =>
oF (vExtract e 0) fun e =>
condW f (
uF (.agg [(nI 0)]) 0 e fun e =>
oF (vBuild [nL,nL,nL,nL,nL,nL,nL,nL,nL,nL] []) fun f =>
pF e 0 fun e =>
oF (vStore 10 a (.agg f) c) fun f =>
oF (vStore 1 b e f) fun e =>
wvR σ (resCons (vLoad true 10 a e) (resCons (vLoad false 1 b e) (some []))) e R) (
panW .nilIface fun e => R (.pan e) c))) (
oF (vLoad true 10 a d) fun c =>
callB W 24 [c] d (fun c d =>
oF (vPut 2 (.agg [(nI 0),(nI 0)]) 0 c) fun c =>
pF c 1 fun e =>
bF .neq e (nI 0) fun e =>
condW e (
oF (vBuild [nL,nL,nL,nL,nL,nL,nL,nL,nL,nL] []) fun e =>
pF c 1 fun c =>
oF (vStore 10 a (.agg e) d) fun e =>
oF (vStore 1 b c e) fun c =>
oF (vBin (some .ifc) .eql .nilIface .nilIface) fun e =>
condW e (
wvR σ (resCons (vLoad true 10 a c) (resCons (vLoad false 1 b c) (some []))) c R) (
oF (vAssert 140 (.agg [(nI 0)]) true .nilIface) fun e =>
oF (vExtract e 1) fun f =>
oF (vExtract e 0) fun e =>
condW f (
uF (.agg [(nI 0)]) 0 e fun e =>
oF (vBuild [nL,nL,nL,nL,nL,nL,nL,nL,nL,nL] []) fun f =>
pF e 0 fun e =>
oF (vStore 10 a (.agg f) c) fun f =>
oF (vStore 1 b e f) fun e =>
wvR σ (resCons (vLoad true 10 a e) (resCons (vLoad false 1 b e) (some []))) e R) (
panW .nilIface fun e => R (.pan e) c))) (
oF (vLoad true 10 a d) fun c =>
oF (vStore 10 a c d) fun c =>
oF (vStore 1 b (nI 0) c) fun c =>
oF (vBin (some .ifc) .eql .nilIface .nilIface) fun d =>
condW d (
wvR σ (resCons (vLoad true 10 a c) (resCons (vLoad false 1 b c) (some []))) c R) (
oF (vAssert 140 (.agg [(nI 0)]) true .nilIface) fun d =>
oF (vExtract d 1) fun e =>
oF (vExtract d 0) fun d =>
condW e (
uF (.agg [(nI 0)]) 0 d fun d =>
oF (vBuild [nL,nL,nL,nL,nL,nL,nL,nL,nL,nL] []) fun e =>
pF d 0 fun d =>
oF (vStore 10 a (.agg e) c) fun e =>
oF (vStore 1 b d e) fun d =>
wvR σ (resCons (vLoad true 10 a d) (resCons (vLoad false 1 b d) (some []))) d R) (
panW .nilIface fun d => R (.pan d) c)))) (fun c d => oF (vBin (some .ifc) .eql c .nilIface) fun e =>
condW e (
wvR σ (resCons (vLoad true 10 a d) (resCons (vLoad false 1 b d) (some []))) d R) (
oF (vAssert 140 (.agg [(nI 0)]) true c) fun e =>
oF (vExtract e 1) fun f =>
oF (vExtract e 0) fun e =>
condW f (
uF (.agg [(nI 0)]) 0 e fun e =>
oF (vBuild [nL,nL,nL,nL,nL,nL,nL,nL,nL,nL] []) fun f =>
pF e 0 fun e =>
oF (vStore 10 a (.agg f) d) fun d =>
oF (vStore 1 b e d) fun d =>
wvR σ (resCons (vLoad true 10 a d) (resCons (vLoad false 1 b d) (some []))) d R) (
panW c fun c => False))))) (fun c d => oF (vBin (some .ifc) .eql c .nilIface) fun e =>
condW e (
wvR σ (resCons (vLoad true 10 a d) (resCons (vLoad false 1 b d) (some []))) d R) (
oF (vAssert 140 (.agg [(nI 0)]) true c) fun e =>
oF (vExtract e 1) fun f =>
oF (vExtract e 0) fun e =>
condW f (
uF (.agg [(nI 0)]) 0 e fun e =>
oF (vBuild [nL,nL,nL,nL,nL,nL,nL,nL,nL,nL] []) fun f =>
pF e 0 fun e =>
oF (vStore 10 a (.agg f) d) fun d =>
oF (vStore 1 b e d) fun d =>
wvR σ (resCons (vLoad true 10 a d) (resCons (vLoad false 1 b d) (some []))) d R) (
panW c fun a => False))) else False)) (pNR R)) (pNR R))))
theorem fn32_eq (W : CallP) (a0 : PV) (σ : St) (R : Res → St → Prop) : bodyC (algP W) Tryz.prog annF 32 [a0] σ R = fn32 Tryz.prog W a0 σ R := by kernel_rfl
def fn82 (Pr : Program) (W : CallP) (a0 : PV) (σ : St) (R : Res → St → Prop) : Prop :=
oF (opC.vBoxAny a0) fun a =>
if 0 < a.1 then newW a.1 a.2 σ fun a b =>
oF (vLoad false 1 a b) fun c =>
callB W 167 [c,(.func 168 0 [a])] b (fun b c =>
uF (.agg [nL,nL,nL,nL,nL,nL,nL,nL,nL,nL]) 0 b fun b =>
oF (vLoad false 1 a c) fun d =>
oF (vLoad false 1 a c) fun e =>
callB W 171 [d,(.func 172 1 [e])] c (fun c d =>
uF b 1 c fun b =>
oF (vLoad false 1 a d) fun c =>
callB W 173 [c,(.func 174 0 [a])] d (fun c d =>
uF b 2 c fun b =>
oF (vLoad false 1 a d) fun c =>
oF (vLoad false 1 a d) fun e =>
callB W 176 [c,(.func 177 1 [e])] d (fun c d =>
uF b 3 c fun b =>
oF (vLoad false 1 a d) fun c =>
oF (vLoad false 1 a d) fun e =>
callB W 178 [c,(.func 179 1 [e])] d (fun c d =>
uF b 4 c fun b =>
oF (vLoad false 1 a d) fun c =>
oF (vLoad false 1 a d) fun e =>
callB W 171 [c,(.func 172 1 [e])] d (fun c d =>
uF b 5 c fun b =>
oF (vLoad false 1 a d) fun c =>
oF (vLoad false 1 a d) fun e =>
callB W 171 [c,(.func 172 1 [e])] d (fun c d =>
uF b 6 c fun b =>
oF (vLoad false 1 a d) fun c =>
oF (vLoad false 1 a d) fun e =>
callB W 180 [c,(.func 181 1 [e])] d (fun c d =>
uF b 7 c fun b =>
oF (vLoad false 1 a d) fun c =>
callB W 182 [c,(.func 183 0 [a])] d (fun c d =>
uF b 8 c fun b =>
oF (vLoad false 1 a d) fun c =>
callB W 185 [c,(.func 186 0 [a])] d (fun a c =>
uF b 9 a fun a =>
oF (vPart true 10 a 0) fun a =>
oF (vPut 10 (.agg [nL,nL,nL,nL,nL,nL,nL,nL,nL,nL]) 0 a) fun a =>
wvR σ (resCons (vPart true 10 a 0) (some [])) c R) (pNR R)) (pNR R)) (pNR R)) (pNR R)) (pNR R)) (pNR R)) (pNR R)) (pNR R)) (pNR R)) (pNR R) else False
theorem fn82_eq (W : CallP) (a0 : PV) (σ : St) (R : Res → St → Prop) : bodyC (algP W) Tryz.prog annF 82 [a0] σ R = fn82 Tryz.prog W a0 σ R := by kernel_rfl
def fn167 (Pr : Program) (W : CallP) (a0 a1 : PV) (σ : St) (R : Res → St → Prop) : Prop :=
callB W 250 [a0] σ (fun a b =>
packW [(1,a1),(5,nL),(7,a),(8,nI 0)] fun a =>
Lfp σ (fun c d e =>
bF .lss (d 8) (d 7) fun f =>
condW f (
callG (algP W) Pr false (d 1) [] e (fun f g =>
mF 1 (.agg [nL]) f fun f =>
bindS (vAppend 1 24 (d 5) (.list .full f) g) fun f g =>
bF .add (d 8) (nI 1) fun h =>
kF [(1,d 1),(5,f),(7,d 7),(8,h)] c g) (pNR R)) (
wkR σ (d 5) e R)) a b) (pNR R)
theorem fn167_eq (W : CallP) (a0 a1 : PV) (σ : St) (R : Res → St → Prop) : bodyC (algP W) Tryz.prog annF 167 [a0,a1] σ R = fn167 Tryz.prog W a0 a1 σ R := by kernel_rfl
def fn168 (Pr : Program) (W : CallP) (a0 : PV) (σ : St) (R : Res → St → Prop) : Prop :=
oF (vLoad false 1 a0 σ) fun a =>
oF (vLoad false 1 a0 σ) fun b =>
callB W 169 [a,(.func 170 1 [b])] σ (fun a b =>
oF (vBuild [nL] [(0,1,a)]) fun a =>
uF (.agg [nL]) 0 (.agg a) fun a =>
wvR σ (resCons (vPart true 1 a 0) (some [])) b R) (pNR R)
theorem fn168_eq (W : CallP) (a0 : PV) (σ : St) (R : Res → St → Prop) : bodyC (algP W) Tryz.prog annF 168 [a0] σ R = fn168 Tryz.prog W a0 σ R := by kernel_rfl
def fn169 (Pr : Program) (W : CallP) (a0 a1 : PV) (σ : St) (R : Res → St → Prop) : Prop :=
callB W 250 [a0] σ (fun a b =>
packW [(1,a1),(5,nL),(7,a),(8,nI 0)] fun a =>
Lfp σ (fun c d e =>
bF .lss (d 8) (d 7) fun f =>
condW f (
callG (algP W) Pr false (d 1) [] e (fun f g =>
mF 5 (.agg [(nI 0),(nI 0),(nI 0),(nI 0),(.bool false)]) f fun f =>
bindS (vAppend 5 40 (d 5) (.list .full f) g) fun f g =>
bF .add (d 8) (nI 1) fun h =>
kF [(1,d 1),(5,f),(7,d 7),(8,h)] c g) (pNR R)) (
wkR σ (d 5) e R)) a b) (pNR R)
theorem fn169_eq (W : CallP) (a0 a1 : PV) (σ : St) (R : Res → St → Prop) : bodyC (algP W) Tryz.prog annF 169 [a0,a1] σ R = fn169 Tryz.prog W a0 a1 σ R := by kernel_rfl
def fn170 (Pr : Program) (W : CallP) (a0 : PV) (σ : St) (R : Res → St → Prop) : Prop :=
callB W 175 [a0] σ (fun a b =>
oF (vBuild [(nI 0),(nI 0),(nI 0),(nI 0),(.bool false)] [(0,1,a)]) fun a =>
oF (vPut 5 (.agg [(nI 0),(nI 0),(nI 0),(nI 0),(.bool false)]) 0 (.agg a)) fun a =>
callB W 175 [a0] b (fun b c =>
uF a 1 b fun a =>
callB W 175 [a0] c (fun b c =>
uF a 2 b fun a =>
callB W 175 [a0] c (fun b c =>
uF a 3 b fun a =>
callB W 184 [a0] c (fun b c =>
uF a 4 b fun a =>
oF (vPart true 5 a 0) fun a =>
oF (vPut 5 (.agg [(nI 0),(nI 0),(nI 0),(nI 0),(.bool false)]) 0 a) fun a =>
wvR σ (resCons (vPart true 5 a 0) (some [])) c R) (pNR R)) (pNR R)) (pNR R)) (pNR R)) (pNR R)
theorem fn170_eq (W : CallP) (a0 : PV) (σ : St) (R : Res → St → Prop) : bodyC (algP W) Tryz.prog annF 170 [a0] σ R = fn170 Tryz.prog W a0 σ R := by kernel_rfl
def fn171 (Pr : Program) (W : CallP) (a0 a1 : PV) (σ : St) (R : Res → St → Prop) : Prop :=
callB W 250 [a0] σ (fun a b =>
packW [(1,a1),(5,nL),(7,a),(8,nI 0)] fun a =>
Lfp σ (fun c d e =>
bF .lss (d 8) (d 7) fun f =>
condW f (
callG (algP W) Pr false (d 1) [] e (fun f g =>
mF 1 nL f fun f =>
bindS (vAppend 1 24 (d 5) (.list .full f) g) fun f g =>
bF .add (d 8) (nI 1) fun h =>
kF [(1,d 1),(5,f),(7,d 7),(8,h)] c g) (pNR R)) (
wkR σ (d 5) e R)) a b) (pNR R)
theorem fn171_eq (W : CallP) (a0 a1 : PV) (σ : St) (R : Res → St → Prop) : bodyC (algP W) Tryz.prog annF 171 [a0,a1] σ R = fn171 Tryz.prog W a0 a1 σ R := by kernel_rfl
def fn172 (Pr : Program) (W : CallP) (a0 : PV) (σ : St) (R : Res → St → Prop) : Prop :=
callB W 251 [a0,(.func 175 1 [a0])] σ (fun a b =>
wkR σ a b R) (pNR R)
theorem fn172_eq (W : CallP) (a0 : PV) (σ : St) (R : Res → St → Prop) : bodyC (algP W) Tryz.prog annF 172 [a0] σ R = fn172 Tryz.prog W a0 σ R := by kernel_rfl
def fn173 (Pr : Program) (W : CallP) (a0 a1 : PV) (σ : St) (R : Res → St → Prop) : Prop :=
callB W 250 [a0] σ (fun a b =>
packW [(1,a1),(5,nL),(7,a),(8,nI 0)] fun a =>
Lfp σ (fun c d e =>
bF .lss (d 8) (d 7) fun f =>
condW f (
callG (algP W) Pr false (d 1) [] e (fun f g =>
mF 2 (.agg [(nI 0),(nI 0)]) f fun f =>
bindS (vAppend 2 16 (d 5) (.list .full f) g) fun f g =>
bF .add (d 8) (nI 1) fun h =>
kF [(1,d 1),(5,f),(7,d 7),(8,h)] c g) (pNR R)) (
wkR σ (d 5) e R)) a b) (pNR R)
theorem fn173_eq (W : CallP) (a0 a1 : PV) (σ : St) (R : Res → St → Prop) : bodyC (algP W) Tryz.prog annF 173 [a0,a1] σ R = fn173 Tryz.prog W a0 a1 σ R := by kernel_rfl
def fn174 (Pr : Program) (W : CallP) (a0 : PV) (σ : St) (R : Res → St → Prop) : Prop :=
oF (vLoad false 1 a0 σ) fun a =>
callB W 175 [a] σ (fun a b =>
oF (vBuild [(nI 0),(nI 0)] [(0,1,a)]) fun a =>
oF (vPut 2 (.agg [(nI 0),(nI 0)]) 0 (.agg a)) fun a =>
oF (vLoad false 1 a0 b) fun c =>
callB W 175 [c] b (fun b c =>
uF a 1 b fun a =>
oF (vPart true 2 a 0) fun a =>
oF (vPut 2 (.agg [(nI 0),(nI 0)]) 0 a) fun a =>
wvR σ (resCons (vPart true 2 a 0) (some [])) c R) (pNR R)) (pNR R)
theorem fn174_eq (W : CallP) (a0 : PV) (σ : St) (R : Res → St → Prop) : bodyC (algP W) Tryz.prog annF 174 [a0] σ R = fn174 Tryz.prog W a0 σ R := by kernel_rfl
def fn175 (Pr : Program) (W : CallP) (a0 : PV) (σ : St) (R : Res → St → Prop) : Prop :=
callB W 252 [a0] σ (fun a b =>
wkR σ a b R) (pNR R)
theorem fn175_eq (W : CallP) (a0 : PV) (σ : St) (R : Res → St → Prop) : bodyC (algP W) Tryz.prog annF 175 [a0] σ R = fn175 Tryz.prog W a0 σ R := by kernel_rfl
def fn176 (Pr : Program) (W : CallP) (a0 a1 : PV) (σ : St) (R : Res → St → Prop) : Prop :=
callB W 250 [a0] σ (fun a b =>
packW [(1,a1),(5,nL),(7,a),(8,nI 0)] fun a =>
Lfp σ (fun c d e =>
bF .lss (d 8) (d 7) fun f =>
condW f (
callG (algP W) Pr false (d 1) [] e (fun f g =>
mF 9 (.agg [(nI 0),(nI 0),(nI 0),(nI 0),(nI 0),(nI 0),(nI 0),(nI 0),nL]) f fun f =>
bindS (vAppend 9 88 (d 5) (.list .full f) g) fun f g =>
bF .add (d 8) (nI 1) fun h =>
kF [(1,d 1),(5,f),(7,d 7),(8,h)] c g) (pNR R)) (
wkR σ (d 5) e R)) a b) (pNR R)
theorem fn176_eq (W : CallP) (a0 a1 : PV) (σ : St) (R : Res → St → Prop) : bodyC (algP W) Tryz.prog annF 176 [a0,a1] σ R = fn176 Tryz.prog W a0 a1 σ R := by kernel_rfl
def fn177 (Pr : Program) (W : CallP) (a0 : PV) (σ : St) (R : Res → St → Prop) : Prop :=
oF (opC.vBoxAny a0) fun a =>
if 0 < a.1 then newW a.1 a.2 σ fun a b =>
newW 9 (.agg [(nI 0),(nI 0),(nI 0),(nI 0),(nI 0),(nI 0),(nI 0),(nI 0),nL]) b fun b c =>
CutW σ (fun d =>
oF (vField 0 b) fun e =>
oF (vField 1 b) fun f =>
oF (vField 2 b) fun g =>
oF (vField 3 b) fun h =>
oF (vField 4 b) fun i =>
oF (vField 5 b) fun j =>
oF (vField 6 b) fun k =>
oF (vField 7 b) fun l =>
oF (vBuildSl 1 (List.replicate 8 .nilptr) [(0,e),(1,f),(2,g),(3,h),(4,i),(5,j),(6,k),(7,l)]) fun e =>
oF (vLen .sl (.list .full e) c) fun f =>
packW [(1,a),(3,b),(14,(.list .full e)),(15,f),(16,nI 0),(2,(.agg [(nI 0),(nI 0),(nI 0),(nI 0),(nI 0),(nI 0),(nI 0),(nI 0),nL]))] fun a =>
Lfp σ (fun b e f =>
bF .lss (e 16) (e 15) fun g =>
condW g (
oF (vIndex 1 (e 14) (e 16)) fun g =>
oF (vLoad false 1 g f) fun g =>
oF (vLoad false 1 (e 1) f) fun h =>
callB W 175 [h] f (fun h i =>
oF (vNil g) fun g =>
oF (vStore 1 g h i) fun g =>
bF .add (e 16) (nI 1) fun h =>
kF [(1,e 1),(3,e 3),(14,e 14),(15,e 15),(16,h),(2,e 2)] b g) (pNR R)) (
kF [(1,e 1),(3,e 3),(2,e 2)] d f)) a c) (fun a b =>
oF (vLoad false 1 (a 1) b) fun c =>
callB W 253 [c,(.func 254 0 [(a 1)])] b (fun b c =>
oF (vField 8 (a 3)) fun d =>
oF (vStore 1 d b c) fun b =>
oF (vLoad true 9 (a 3) b) fun c =>
oF (vPut 9 (a 2) 0 c) fun a =>
wvR σ (resCons (vPart true 9 a 0) (some [])) b R) (pNR R)) else False
theorem fn177_eq (W : CallP) (a0 : PV) (σ : St) (R : Res → St → Prop) : bodyC (algP W) Tryz.prog annF 177 [a0] σ R = fn177 Tryz.prog W a0 σ R := by kernel_rfl
def fn178 (Pr : Program) (W : CallP) (a0 a1 : PV) (σ : St) (R : Res → St → Prop) : Prop :=
callB W 250 [a0] σ (fun a b =>
packW [(1,a1),(5,nL),(7,a),(8,nI 0)] fun a =>
Lfp σ (fun c d e =>
bF .lss (d 8) (d 7) fun f =>
condW f (
callG (algP W) Pr false (d 1) [] e (fun f g =>
mF 12 (.agg [(nI 0),(nI 0),(nI 0),(nI 0),(nI 0),(nI 0),(nI 0),(nI 0),(nI 0),(nI 0),(nI 0),(nI 0)]) f fun f =>
bindS (vAppend 12 96 (d 5) (.list .full f) g) fun f g =>
bF .add (d 8) (nI 1) fun h =>
kF [(1,d 1),(5,f),(7,d 7),(8,h)] c g) (pNR R)) (
wkR σ (d 5) e R)) a b) (pNR R)
theorem fn178_eq (W : CallP) (a0 a1 : PV) (σ : St) (R : Res → St → Prop) : bodyC (algP W) Tryz.prog annF 178 [a0,a1] σ R = fn178 Tryz.prog W a0 a1 σ R := by kernel_rfl
def fn179 (Pr : Program) (W : CallP) (a0 : PV) (σ : St) (R : Res → St → Prop) : Prop :=
callB W 175 [a0] σ (fun a b =>
oF (vBuild [(nI 0),(nI 0),(nI 0),(nI 0),(nI 0),(nI 0),(nI 0),(nI 0),(nI 0),(nI 0),(nI 0),(nI 0)] [(0,1,a)]) fun a =>
newW 12 (.agg [(nI 0),(nI 0),(nI 0),(nI 0),(nI 0),(nI 0),(nI 0),(nI 0),(nI 0),(nI 0),(nI 0),(nI 0)]) b fun b c =>
oF (vStore 12 b (.agg a) c) fun a =>
CutW σ (fun c =>
oF (vField 1 b) fun d =>
oF (vField 4 b) fun e =>
oF (vField 7 b) fun f =>
oF (vBuildSl 1 (List.replicate 3 .nilptr) [(0,d),(1,e),(2,f)]) fun d =>
oF (vLen .sl (.list .full d) a) fun e =>
packW [(0,a0),(3,b),(12,(.list .full d)),(13,e),(14,nI 0),(2,(.agg [(nI 0),(nI 0),(nI 0),(nI 0),(nI 0),(nI 0),(nI 0),(nI 0),(nI 0),(nI 0),(nI 0),(nI 0)]))] fun b =>
Lfp σ (fun d e f =>
bF .lss (e 14) (e 13) fun g =>
condW g (
oF (vIndex 1 (e 12) (e 14)) fun g =>
oF (vLoad false 1 g f) fun g =>
callB W 175 [(e 0)] f (fun h i =>
sF g 0 h i fun h =>
callB W 175 [(e 0)] h (fun h i =>
sF g 1 h i fun h =>
callB W 175 [(e 0)] h (fun h i =>
sF g 2 h i fun g =>
bF .add (e 14) (nI 1) fun h =>
kF [(0,e 0),(3,e 3),(12,e 12),(13,e 13),(14,h),(2,e 2)] d g) (pNR R)) (pNR R)) (pNR R)) (
kF [(0,e 0),(3,e 3),(2,e 2)] c f)) b a) (fun a b =>
callB W 252 [(a 0)] b (fun b c =>
oF (vField 10 (a 3)) fun d =>
oF (vStore 1 d b c) fun b =>
callB W 175 [(a 0)] b (fun b c =>
oF (vField 11 (a 3)) fun d =>
oF (vStore 1 d b c) fun b =>
oF (vLoad true 12 (a 3) b) fun c =>
oF (vPut 12 (a 2) 0 c) fun a =>
wvR σ (resCons (vPart true 12 a 0) (some [])) b R) (pNR R)) (pNR R))) (pNR R)
theorem fn179_eq (W : CallP) (a0 : PV) (σ : St) (R : Res → St → Prop) : bodyC (algP W) Tryz.prog annF 179 [a0] σ R = fn179 Tryz.prog W a0 σ R := by kernel_rfl
def fn180 (Pr : Program) (W : CallP) (a0 a1 : PV) (σ : St) (R : Res → St → Prop) : Prop :=
callB W 250 [a0] σ (fun a b =>
packW [(1,a1),(5,nL),(7,a),(8,nI 0)] fun a =>
Lfp σ (fun c d e =>
bF .lss (d 8) (d 7) fun f =>
condW f (
callG (algP W) Pr false (d 1) [] e (fun f g =>
mF 1 (.str []) f fun f =>
bindS (vAppend 1 16 (d 5) (.list .full f) g) fun f g =>
bF .add (d 8) (nI 1) fun h =>
kF [(1,d 1),(5,f),(7,d 7),(8,h)] c g) (pNR R)) (
wkR σ (d 5) e R)) a b) (pNR R)
theorem fn180_eq (W : CallP) (a0 a1 : PV) (σ : St) (R : Res → St → Prop) : bodyC (algP W) Tryz.prog annF 180 [a0,a1] σ R = fn180 Tryz.prog W a0 a1 σ R := by kernel_rfl
def fn181 (Pr : Program) (W : CallP) (a0 : PV) (σ : St) (R : Res → St → Prop) : Prop :=
callB W 250 [a0] σ (fun a b =>
lF a0 0 b fun c =>
oF (vSubSl 1 c none (some a)) fun c =>
oF (vToStr c b) fun c =>
lF a0 0 b fun d =>
oF (vSubSl 1 d (some a) none) fun a =>
sF a0 0 a b fun a =>
wkR σ c a R) (pNR R)
theorem fn181_eq (W : CallP) (a0 : PV) (σ : St) (R : Res → St → Prop) : bodyC (algP W) Tryz.prog annF 181 [a0] σ R = fn181 Tryz.prog W a0 σ R := by kernel_rfl
def fn182 (Pr : Program) (W : CallP) (a0 a1 : PV) (σ : St) (R : Res → St → Prop) : Prop :=
callB W 250 [a0] σ (fun a b =>
packW [(1,a1),(5,nL),(7,a),(8,nI 0)] fun a =>
Lfp σ (fun c d e =>
bF .lss (d 8) (d 7) fun f =>
condW f (
callG (algP W) Pr false (d 1) [] e (fun f g =>
mF 3 (.agg [(.str []),(.bool false),(nI 0)]) f fun f =>
bindS (vAppend 3 32 (d 5) (.list .full f) g) fun f g =>
bF .add (d 8) (nI 1) fun h =>
kF [(1,d 1),(5,f),(7,d 7),(8,h)] c g) (pNR R)) (
wkR σ (d 5) e R)) a b) (pNR R)
theorem fn182_eq (W : CallP) (a0 a1 : PV) (σ : St) (R : Res → St → Prop) : bodyC (algP W) Tryz.prog annF 182 [a0,a1] σ R = fn182 Tryz.prog W a0 a1 σ R := by kernel_rfl
def fn183 (Pr : Program) (W : CallP) (a0 : PV) (σ : St) (R : Res → St → Prop) : Prop :=
oF (vLoad false 1 a0 σ) fun a =>
callB W 181 [a] σ (fun a b =>
oF (vBuild [(.str []),(.bool false),(nI 0)] [(0,1,a)]) fun a =>
oF (vPut 3 (.agg [(.str []),(.bool false),(nI 0)]) 0 (.agg a)) fun a =>
oF (vLoad false 1 a0 b) fun c =>
callB W 184 [c] b (fun b c =>
uF a 1 b fun a =>
oF (vLoad false 1 a0 c) fun b =>
callB W 175 [b] c (fun b c =>
uF a 2 b fun a =>
oF (vPart true 3 a 0) fun a =>
oF (vPut 3 (.agg [(.str []),(.bool false),(nI 0)]) 0 a) fun a =>
wvR σ (resCons (vPart true 3 a 0) (some [])) c R) (pNR R)) (pNR R)) (pNR R)
theorem fn183_eq (W : CallP) (a0 : PV) (σ : St) (R : Res → St → Prop) : bodyC (algP W) Tryz.prog annF 183 [a0] σ R = fn183 Tryz.prog W a0 σ R := by kernel_rfl
def fn184 (Pr : Program) (W : CallP) (a0 : PV) (σ : St) (R : Res → St → Prop) : Prop :=
callB W 252 [a0] σ (fun a b =>
CutW σ (fun c =>
bF .neq a (nI 0) fun d =>
gF d true (fun e =>
bF .neq a (nI 1) fun f =>
e (lookE [(9,(.v a)),(10,(.v f))]) b) b (fun b e =>
oF (vPick d (b 10).pv (.bool false)) fun b =>
condW b (
callB W 255 [(nI 2)] e (fun b b =>
kF [(3,a)] c b) (pNR R)) (
kF [(3,a)] c e))) (fun a b =>
bF .eql (a 3) (nI 1) fun a =>
wkR σ a b R)) (pNR R)
theorem fn184_eq (W : CallP) (a0 : PV) (σ : St) (R : Res → St → Prop) : bodyC (algP W) Tryz.prog annF 184 [a0] σ R = fn184 Tryz.prog W a0 σ R := by kernel_rfl
def fn185 (Pr : Program) (W : CallP) (a0 a1 : PV) (σ : St) (R : Res → St → Prop) : Prop :=
callB W 250 [a0] σ (fun a b =>
packW [(1,a1),(5,nL),(7,a),(8,nI 0)] fun a =>
Lfp σ (fun c d e =>
bF .lss (d 8) (d 7) fun f =>
condW f (
callG (algP W) Pr false (d 1) [] e (fun f g =>
mF 2 (.agg [(nI 0),(nI 0)]) f fun f =>
bindS (vAppend 2 16 (d 5) (.list .full f) g) fun f g =>
bF .add (d 8) (nI 1) fun h =>
kF [(1,d 1),(5,f),(7,d 7),(8,h)] c g) (pNR R)) (
wkR σ (d 5) e R)) a b) (pNR R)
theorem fn185_eq (W : CallP) (a0 a1 : PV) (σ : St) (R : Res → St → Prop) : bodyC (algP W) Tryz.prog annF 185 [a0,a1] σ R = fn185 Tryz.prog W a0 a1 σ R := by kernel_rfl
def fn186 (Pr : Program) (W : CallP) (a0 : PV) (σ : St) (R : Res → St → Prop) : Prop :=
oF (vLoad false 1 a0 σ) fun a =>
callB W 175 [a] σ (fun a b =>
oF (vBuild [(nI 0),(nI 0)] [(0,1,a)]) fun a =>
oF (vPut 2 (.agg [(nI 0),(nI 0)]) 0 (.agg a)) fun a =>
oF (vLoad false 1 a0 b) fun c =>
callB W 175 [c] b (fun b c =>
uF a 1 b fun a =>
oF (vPart true 2 a 0) fun a =>
oF (vPut 2 (.agg [(nI 0),(nI 0)]) 0 a) fun a =>
wvR σ (resCons (vPart true 2 a 0) (some [])) c R) (pNR R)) (pNR R)
theorem fn186_eq (W : CallP) (a0 : PV) (σ : St) (R : Res → St → Prop) : bodyC (algP W) Tryz.prog annF 186 [a0] σ R = fn186 Tryz.prog W a0 σ R := by kernel_rfl
def fn250 (Pr : Program) (W : CallP) (a0 : PV) (σ : St) (R : Res → St → Prop) : Prop :=
callB W 252 [a0] σ (fun a b =>
CutW σ (fun c =>
bF .lss a (nI 0) fun d =>
gF d false (fun e =>
oF (vNil a0) fun f =>
oF (vField 0 f) fun g =>
oF (vLoad false 1 g b) fun h =>
oF (vLen .sl h b) fun i =>
bF .gtr a i fun j =>
e (lookE [(9,(.v a)),(10,(.v a0)),(11,(.v f)),(12,(.v g)),(13,(.v h)),(14,(.v i)),(15,(.v j))]) b) b (fun b e =>
oF (vPick d (.bool true) (b 15).pv) fun b =>
condW b (
callB W 255 [(nI 2)] e (fun b b =>
kF [(3,a)] c b) (pNR R)) (
kF [(3,a)] c e))) (fun a b =>
wkR σ (a 3) b R)) (pNR R)
theorem fn250_eq (W : CallP) (a0 : PV) (σ : St) (R : Res → St → Prop) : bodyC (algP W) Tryz.prog annF 250 [a0] σ R = fn250 Tryz.prog W a0 σ R := by kernel_rfl
def fn251 (Pr : Program) (W : CallP) (a0 a1 : PV) (σ : St) (R : Res → St → Prop) : Prop :=
callB W 250 [a0] σ (fun a b =>
packW [(1,a1),(5,nL),(7,a),(8,nI 0)] fun a =>
Lfp σ (fun c d e =>
bF .lss (d 8) (d 7) fun f =>
condW f (
callG (algP W) Pr false (d 1) [] e (fun f g =>
mF 1 (nI 0) f fun f =>
bindS (vAppend 1 8 (d 5) (.list .full f) g) fun f g =>
bF .add (d 8) (nI 1) fun h =>
kF [(1,d 1),(5,f),(7,d 7),(8,h)] c g) (pNR R)) (
wkR σ (d 5) e R)) a b) (pNR R)
theorem fn251_eq (W : CallP) (a0 a1 : PV) (σ : St) (R : Res → St → Prop) : bodyC (algP W) Tryz.prog annF 251 [a0,a1] σ R = fn251 Tryz.prog W a0 a1 σ R := by kernel_rfl
def fn252 (Pr : Program) (W : CallP) (a0 : PV) (σ : St) (R : Res → St → Prop) : Prop :=
CutW σ (fun a =>
packW [(0,a0),(3,(.int .u64 0)),(4,nI 0)] fun b =>
Lfp σ (fun c d e =>
CutW σ (fun f =>
CutW σ (fun g =>
lF (d 0) 0 e fun h =>
oF (vLen .sl h e) fun h =>
bF .eql h (nI 0) fun h =>
condW h (
callB W 255 [(nI 16)] e (fun h h =>
kF [(0,d 0),(3,d 3),(4,d 4)] g h) (pNR R)) (
kF [(0,d 0),(3,d 3),(4,d 4)] g e)) (fun d e =>
lF (d 0) 0 e fun g =>
oF (vIndex 1 g (nI 0)) fun g =>
oF (vLoad false 1 g e) fun g =>
lF (d 0) 0 e fun h =>
oF (vSubSl 1 h (some (nI 1)) none) fun h =>
sF (d 0) 0 h e fun e =>
CutW σ (fun h =>
bF .eql (d 4) (nI 9) fun i =>
gF i true (fun j =>
bF .gtr g (.int .u8 1) fun k =>
j (lookE [(33,(.v g)),(34,(.v k))]) e) e (fun e j =>
oF (vPick i (e 34).pv (.bool false)) fun e =>
gF e false (fun i =>
bF .gtr (d 4) (nI 0) fun k =>
i (lookE [(37,(.v (d 4))),(38,(.v k)),(39,(.v k))]) j) j (fun i j =>
gF (i 39).pv true (fun k =>
bF .eql g (.int .u8 0) fun l =>
k (lookE [(40,(.v g)),(41,(.v l))]) j) j (fun j k =>
gF e false (fun l =>
oF (vPick (i 39).pv (j 41).pv (.bool false)) fun i =>
l (lookE [(42,(.v i))]) k) k (fun i j =>
oF (vPick e (.bool true) (i 42).pv) fun e =>
condW e (
callB W 255 [(nI 2)] j (fun e e =>
kF [(0,d 0),(3,d 3),(4,d 4),(5,g)] h e) (pNR R)) (
kF [(0,d 0),(3,d 3),(4,d 4),(5,g)] h j)))))) (fun d e =>
bF .and (d 5) (.int .u8 127) fun g =>
oF (vConv .u64 g) fun g =>
bF .mul (nI 7) (d 4) fun h =>
bF .shl g h fun g =>
bF .or (d 3) g fun g =>
bF .lss (d 5) (.int .u8 128) fun h =>
condW h (
kF [(3,g)] a e) (
kF [(0,d 0),(3,g),(4,d 4)] f e)))) (fun a d =>
bF .add (a 4) (nI 1) fun e =>
kF [(0,a 0),(3,a 3),(4,e)] c d)) b σ) (fun a b =>
bF .shr (a 3) (.int .u64 1) fun c =>
oF (vConv .i64 c) fun c =>
CutW σ (fun d =>
bF .and (a 3) (.int .u64 1) fun a =>
bF .neq a (.int .u64 0) fun a =>
condW a (
oF (vUn .xor c) fun a =>
kF [(6,a)] d b) (
kF [(6,c)] d b)) (fun a b =>
wkR σ (a 6) b R))
theorem fn252_eq (W : CallP) (a0 : PV) (σ : St) (R : Res → St → Prop) : bodyC (algP W) Tryz.prog annF 252 [a0] σ R = fn252 Tryz.prog W a0 σ R := by kernel_rfl
def fn253 (Pr : Program) (W : CallP) (a0 a1 : PV) (σ : St) (R : Res → St → Prop) : Prop :=
callB W 250 [a0] σ (fun a b =>
packW [(1,a1),(5,nL),(7,a),(8,nI 0)] fun a =>
Lfp σ (fun c d e =>
bF .lss (d 8) (d 7) fun f =>
condW f (
callG (algP W) Pr false (d 1) [] e (fun f g =>
mF 3 (.agg [(nI 0),(nI 0),(nI 0)]) f fun f =>
bindS (vAppend 3 24 (d 5) (.list .full f) g) fun f g =>
bF .add (d 8) (nI 1) fun h =>
kF [(1,d 1),(5,f),(7,d 7),(8,h)] c g) (pNR R)) (
wkR σ (d 5) e R)) a b) (pNR R)
theorem fn253_eq (W : CallP) (a0 a1 : PV) (σ : St) (R : Res → St → Prop) : bodyC (algP W) Tryz.prog annF 253 [a0,a1] σ R = fn253 Tryz.prog W a0 a1 σ R := by kernel_rfl
def fn254 (Pr : Program) (W : CallP) (a0 : PV) (σ : St) (R : Res → St → Prop) : Prop :=
oF (vLoad false 1 a0 σ) fun a =>
callB W 175 [a] σ (fun a b =>
oF (vBuild [(nI 0),(nI 0),(nI 0)] [(0,1,a)]) fun a =>
oF (vPut 3 (.agg [(nI 0),(nI 0),(nI 0)]) 0 (.agg a)) fun a =>
oF (vLoad false 1 a0 b) fun c =>
callB W 175 [c] b (fun b c =>
uF a 1 b fun a =>
oF (vLoad false 1 a0 c) fun b =>
callB W 175 [b] c (fun b c =>
uF a 2 b fun a =>
oF (vPart true 3 a 0) fun a =>
oF (vPut 3 (.agg [(nI 0),(nI 0),(nI 0)]) 0 a) fun a =>
wvR σ (resCons (vPart true 3 a 0) (some [])) c R) (pNR R)) (pNR R)) (pNR R)
theorem fn254_eq (W : CallP) (a0 : PV) (σ : St) (R : Res → St → Prop) : bodyC (algP W) Tryz.prog annF 254 [a0] σ R = fn254 Tryz.prog W a0 σ R := by kernel_rfl
def fn255 (Pr : Program) (W : CallP) (a0 : PV) (σ : St) (R : Res → St → Prop) : Prop :=
oF (vBuild [(nI 0)] [(0,1,a0)]) fun a =>
panW (.iface 140 (.agg a)) fun a => R (.pan a) σ
theorem fn255_eq (W : CallP) (a0 : PV) (σ : St) (R : Res → St → Prop) : bodyC (algP W) Tryz.prog annF 255 [a0] σ R = fn255 Tryz.prog W a0 σ R := by kernel_rfl
end Go.Proofs.YtgghfcchanilpaaGreatDoor
