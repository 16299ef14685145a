import Derived.Test.YtgghfcchanilpaaGreatDoorOpsC
import Derived.KernelRfl
import Derived.Test.YtgghfcchanilpaaGreatDoorAnn
import Derived.Test.YtgghfcchanilpaaGreatDoorProg
import Derived.Test.YtgghfcchanilpaaGreatDoorPlB
set_option linter.unusedVariables false
set_option linter.unusedSimpArgs false
namespace Go.Proofs.YtgghfcchanilpaaGreatDoor
open Go Go.Abs Go.ChangeShapes Go.WideShapes Go.ChangeAt Go.RowKit
section
variable {H : Type} {encH : TypeId × Value → H} {W : World}
abbrev dU16 (n : Int) (d : DataW H) : Prop := d = .lit (.int .u16 n) ∧ (Lit.int .u16 n).wf = true
abbrev dU8 (n : Int) (d : DataW H) : Prop := d = .lit (.int .u8 n) ∧ (Lit.int .u8 n).wf = true
theorem oU16 : Opens encH Tryz.prog W (PV.int .u16) dU16 66 1 := opens_int Tryz.underlying66 (by kernel_rfl)
theorem oU8 : Opens encH Tryz.prog W (PV.int .u8) dU8 5 1 := opens_int Tryz.underlying5 (by kernel_rfl)
theorem u16_nat {n : Int} {d : DataW H} (h : dU16 n d) : ∃ m : Nat,m < 65536 ∧ n = (m : Int) := by
 have h2 := h.2
 have e : (Lit.int .u16 n).wf = (decide (0 ≤ n) && decide (n ≤ 65535)) := rfl
 rw [e,Bool.and_eq_true,decide_eq_true_eq,decide_eq_true_eq] at h2
 exact ⟨n.toNat,by omega,by omega⟩
end
end Go.Proofs.YtgghfcchanilpaaGreatDoor
namespace Go.Proofs.YtgghfcchanilpaaGreatDoor
open Go Go.Abs
def fn39 (Pr : Program) (W : CallP) (a0 : PV) (σ : St) (R : Res → St → Prop) : Prop :=
bF .geq a0 (nI 0) fun a =>
guardG False a true (fun b =>
bF .lss a0 (nI 40) fun c =>
b (lookE [(6,(.v a0)),(7,(.v c))]) σ) σ (fun b c =>
oF (vPick a (b 7).pv (.bool false)) fun a =>
wkR σ a c R)
theorem fn39_eq (W : CallP) (a0 : PV) (σ : St) (R : Res → St → Prop) : bodyC (algP W) Tryz.prog annF 39 [a0] σ R = fn39 Tryz.prog W a0 σ R := by kernel_rfl
end Go.Proofs.YtgghfcchanilpaaGreatDoor
namespace Go.Proofs.YtgghfcchanilpaaGreatDoor
open Go Go.Abs
abbrev W : CallP := callW Tryz.prog annF
theorem ret_of {f : FuncId} {args : List PV} {σ : St} {v : PV} (h : ∀ R : Res → St → Prop,R (.ret v) σ → bodyC (algP W) Tryz.prog annF f args σ R) : Ret W f args σ v := fun R hR => callW_fold (h R hR)
theorem globPV0 : globPV 0 = .eptr (.agg opsPV) 0 := rfl
theorem ops_at : ∀ n : Fin 40,opsPV[2 * n.val]? = some (.str (entryS ((n.val : Nat) : Int)).1) ∧ opsPV[2 * n.val + 1]? = some (.str (entryS ((n.val : Nat) : Int)).2) := by
 have h : (List.range 40).all (fun n => (match opsPV[2 * n]? with | some (.str s) => s == (entryS (n : Int)).1 | _ => false) && (match opsPV[2 * n + 1]? with | some (.str s) => s == (entryS (n : Int)).2 | _ => false)) = true := by decide +kernel
 intro n
 have := List.all_eq_true.1 h n.val (by simp)
 simp only [Bool.and_eq_true] at this
 obtain ⟨h1,h2⟩ := this
 constructor
 ·split at h1
  ·rename_i s hs; rw [hs,eq_of_beq h1]
  ·cases h1
 ·split at h2
  ·rename_i s hs; rw [hs,eq_of_beq h2]
  ·cases h2
theorem c39 (n : Int) (σ : St) : Ret W 39 [.int .i64 n] σ (.bool (knownS n)) := by
 refine ret_of fun R hR => ?_
 rw [fn39_eq]
 delta fn39 bF nI
 unfold knownS at hR
 simp only [zz,Nat.reduceEqDiff]
 have e : decide (n ≥ 0) = decide (0 ≤ n) := rfl
 cases h : decide (n ≥ 0) with
 | true =>
  rw [← e,h] at hR
  simp only [zz,Nat.reduceEqDiff]
  exact weakW_keep (by simpa using hR)
 | false =>
  rw [← e,h] at hR
  simp only [zz,Nat.reduceEqDiff]
  exact weakW_keep (by simpa using hR)
end Go.Proofs.YtgghfcchanilpaaGreatDoor
namespace Go.Proofs.YtgghfcchanilpaaGreatDoor
open Go Go.Abs
def fn104 (Pr : Program) (W : CallP) (a0 a1 : PV) (σ : St) (R : Res → St → Prop) : Prop :=
callB W 221 [a0,a1] σ (fun a b =>
bF .geq a (nI 0) fun a =>
wkR σ a b R) (pNR R)
theorem fn104_eq (W : CallP) (a0 a1 : PV) (σ : St) (R : Res → St → Prop) : bodyC (algP W) Tryz.prog annF 104 [a0,a1] σ R = fn104 Tryz.prog W a0 a1 σ R := by kernel_rfl
def fn106 (Pr : Program) (W : CallP) (a0 a1 : PV) (σ : St) (R : Res → St → Prop) : Prop :=
callB W 136 [a0,a1] σ (fun a b =>
bF .geq a (nI 0) fun a =>
wkR σ a b R) (pNR R)
theorem fn106_eq (W : CallP) (a0 a1 : PV) (σ : St) (R : Res → St → Prop) : bodyC (algP W) Tryz.prog annF 106 [a0,a1] σ R = fn106 Tryz.prog W a0 a1 σ R := by kernel_rfl
def fn108 (Pr : Program) (W : CallP) (a0 a1 : PV) (σ : St) (R : Res → St → Prop) : Prop :=
callB W 222 [a0,a1] σ (fun a b =>
bF .geq a (nI 0) fun a =>
wkR σ a b R) (pNR R)
theorem fn108_eq (W : CallP) (a0 a1 : PV) (σ : St) (R : Res → St → Prop) : bodyC (algP W) Tryz.prog annF 108 [a0,a1] σ R = fn108 Tryz.prog W a0 a1 σ R := by kernel_rfl
def fn110 (Pr : Program) (W : CallP) (a0 a1 : PV) (σ : St) (R : Res → St → Prop) : Prop :=
callB W 223 [a0,a1] σ (fun a b =>
bF .geq a (nI 0) fun a =>
wkR σ a b R) (pNR R)
theorem fn110_eq (W : CallP) (a0 a1 : PV) (σ : St) (R : Res → St → Prop) : bodyC (algP W) Tryz.prog annF 110 [a0,a1] σ R = fn110 Tryz.prog W a0 a1 σ R := by kernel_rfl
def fn113 (Pr : Program) (W : CallP) (a0 a1 : PV) (σ : St) (R : Res → St → Prop) : Prop :=
callB W 224 [a0,a1] σ (fun a b =>
bF .geq a (nI 0) fun a =>
wkR σ a b R) (pNR R)
theorem fn113_eq (W : CallP) (a0 a1 : PV) (σ : St) (R : Res → St → Prop) : bodyC (algP W) Tryz.prog annF 113 [a0,a1] σ R = fn113 Tryz.prog W a0 a1 σ R := by kernel_rfl
def fn136 (Pr : Program) (W : CallP) (a0 a1 : PV) (σ : St) (R : Res → St → Prop) : Prop :=
oF (vLen .sl a0 σ) fun a =>
packW [(0,a0),(1,a1),(7,a),(8,nI 0)] fun a =>
Lfp σ (fun b c d =>
bF .lss (c 8) (c 7) fun e =>
condW e (
oF (vIndex 9 (c 0) (c 8)) fun e =>
oF (vLoad true 9 e d) fun e =>
callG (algP W) Pr false (c 1) [e] d (fun e f =>
condW e (
wkR σ (c 8) f R) (
bF .add (c 8) (nI 1) fun e =>
kF [(0,c 0),(1,c 1),(7,c 7),(8,e)] b f)) (pNR R)) (
wkR σ (nI (-1)) d R)) a σ
theorem fn136_eq (W : CallP) (a0 a1 : PV) (σ : St) (R : Res → St → Prop) : bodyC (algP W) Tryz.prog annF 136 [a0,a1] σ R = fn136 Tryz.prog W a0 a1 σ R := by kernel_rfl
def fn221 (Pr : Program) (W : CallP) (a0 a1 : PV) (σ : St) (R : Res → St → Prop) : Prop :=
oF (vLen .sl a0 σ) fun a =>
packW [(0,a0),(1,a1),(7,a),(8,nI 0)] fun a =>
Lfp σ (fun b c d =>
bF .lss (c 8) (c 7) fun e =>
condW e (
oF (vIndex 1 (c 0) (c 8)) fun e =>
oF (vLoad true 1 e d) fun e =>
callG (algP W) Pr false (c 1) [e] d (fun e f =>
condW e (
wkR σ (c 8) f R) (
bF .add (c 8) (nI 1) fun e =>
kF [(0,c 0),(1,c 1),(7,c 7),(8,e)] b f)) (pNR R)) (
wkR σ (nI (-1)) d R)) a σ
theorem fn221_eq (W : CallP) (a0 a1 : PV) (σ : St) (R : Res → St → Prop) : bodyC (algP W) Tryz.prog annF 221 [a0,a1] σ R = fn221 Tryz.prog W a0 a1 σ R := by kernel_rfl
def fn222 (Pr : Program) (W : CallP) (a0 a1 : PV) (σ : St) (R : Res → St → Prop) : Prop :=
oF (vLen .sl a0 σ) fun a =>
packW [(0,a0),(1,a1),(7,a),(8,nI 0)] fun a =>
Lfp σ (fun b c d =>
bF .lss (c 8) (c 7) fun e =>
condW e (
oF (vIndex 1 (c 0) (c 8)) fun e =>
oF (vLoad false 1 e d) fun e =>
callG (algP W) Pr false (c 1) [e] d (fun e f =>
condW e (
wkR σ (c 8) f R) (
bF .add (c 8) (nI 1) fun e =>
kF [(0,c 0),(1,c 1),(7,c 7),(8,e)] b f)) (pNR R)) (
wkR σ (nI (-1)) d R)) a σ
theorem fn222_eq (W : CallP) (a0 a1 : PV) (σ : St) (R : Res → St → Prop) : bodyC (algP W) Tryz.prog annF 222 [a0,a1] σ R = fn222 Tryz.prog W a0 a1 σ R := by kernel_rfl
def fn223 (Pr : Program) (W : CallP) (a0 a1 : PV) (σ : St) (R : Res → St → Prop) : Prop :=
oF (vLen .sl a0 σ) fun a =>
packW [(0,a0),(1,a1),(7,a),(8,nI 0)] fun a =>
Lfp σ (fun b c d =>
bF .lss (c 8) (c 7) fun e =>
condW e (
oF (vIndex 1 (c 0) (c 8)) fun e =>
oF (vLoad false 1 e d) fun e =>
callG (algP W) Pr false (c 1) [e] d (fun e f =>
condW e (
wkR σ (c 8) f R) (
bF .add (c 8) (nI 1) fun e =>
kF [(0,c 0),(1,c 1),(7,c 7),(8,e)] b f)) (pNR R)) (
wkR σ (nI (-1)) d R)) a σ
theorem fn223_eq (W : CallP) (a0 a1 : PV) (σ : St) (R : Res → St → Prop) : bodyC (algP W) Tryz.prog annF 223 [a0,a1] σ R = fn223 Tryz.prog W a0 a1 σ R := by kernel_rfl
def fn224 (Pr : Program) (W : CallP) (a0 a1 : PV) (σ : St) (R : Res → St → Prop) : Prop :=
oF (vLen .sl a0 σ) fun a =>
packW [(0,a0),(1,a1),(7,a),(8,nI 0)] fun a =>
Lfp σ (fun b c d =>
bF .lss (c 8) (c 7) fun e =>
condW e (
oF (vIndex 1 (c 0) (c 8)) fun e =>
oF (vLoad false 1 e d) fun e =>
callG (algP W) Pr false (c 1) [e] d (fun e f =>
condW e (
wkR σ (c 8) f R) (
bF .add (c 8) (nI 1) fun e =>
kF [(0,c 0),(1,c 1),(7,c 7),(8,e)] b f)) (pNR R)) (
wkR σ (nI (-1)) d R)) a σ
theorem fn224_eq (W : CallP) (a0 a1 : PV) (σ : St) (R : Res → St → Prop) : bodyC (algP W) Tryz.prog annF 224 [a0,a1] σ R = fn224 Tryz.prog W a0 a1 σ R := by kernel_rfl
end Go.Proofs.YtgghfcchanilpaaGreatDoor
