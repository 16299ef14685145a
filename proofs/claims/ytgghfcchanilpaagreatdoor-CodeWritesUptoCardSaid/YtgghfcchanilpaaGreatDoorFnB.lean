import Derived.KernelRfl
import Derived.Test.YtgghfcchanilpaaGreatDoorAnn
import Derived.Test.YtgghfcchanilpaaGreatDoorProg
import Derived.Test.YtgghfcchanilpaaGreatDoorPlB
set_option linter.unusedVariables false
set_option linter.unusedSimpArgs false
namespace Go.Proofs.YtgghfcchanilpaaGreatDoor
open Go Go.Abs
def fn18 (Pr : Program) (W : CallP) (a0 : PV) (σ : St) (R : Res → St → Prop) : Prop :=
oF (vBin none .lss a0 (.int .i64 0)) fun v0 =>
guardG False v0 false (fun J1 =>
oF (vBin none .geq a0 (.int .i64 40)) fun v4 =>
J1 (lookE [(6,(.v a0)),(7,(.v v4))]) σ) σ (fun y2 σ3 =>
oF (vPick v0 (.bool true) (y2 7).pv) fun v5 =>
condW v5 (
wkR σ (.str []) σ3 R) (
callB W 38 [] σ3 (fun v6 σ7 =>
oF (vIndex 2 v6 a0) fun v8 =>
oF (vField 1 v8) fun v9 =>
oF (vLoad false 1 v9 σ7) fun v10 =>
wkR σ v10 σ7 R) (pNR R)))
theorem fn18_eq (W : CallP) (a0 : PV) (σ : St) (R : Res → St → Prop) : bodyC (algP W) Tryz.prog annF 18 [a0] σ R = fn18 Tryz.prog W a0 σ R := by kernel_rfl
def fn39 (Pr : Program) (W : CallP) (a0 : PV) (σ : St) (R : Res → St → Prop) : Prop :=
oF (vBin none .geq a0 (.int .i64 0)) fun v0 =>
guardG False v0 true (fun J1 =>
oF (vBin none .lss a0 (.int .i64 40)) fun v4 =>
J1 (lookE [(6,(.v a0)),(7,(.v v4))]) σ) σ (fun y2 σ3 =>
oF (vPick v0 (y2 7).pv (.bool false)) fun v5 =>
wkR σ v5 σ3 R)
theorem fn39_eq (W : CallP) (a0 : PV) (σ : St) (R : Res → St → Prop) : bodyC (algP W) Tryz.prog annF 39 [a0] σ R = fn39 Tryz.prog W a0 σ R := by kernel_rfl
end Go.Proofs.YtgghfcchanilpaaGreatDoor
namespace Go.Proofs.YtgghfcchanilpaaGreatDoor
open Go Go.Abs
abbrev W : CallP := callW Tryz.prog annF
theorem ret_of {f : FuncId} {args : List PV} {σ : St} {v : PV} (h : ∀ R : Res → St → Prop,R (.ret v) σ → bodyC (algP W) Tryz.prog annF f args σ R) : Ret W f args σ v := fun R hR => callW_fold (h R hR)
def entPV (p : Str × Str) : PV := .agg [.str p.1,.str p.2]
theorem fn38_eq (W : CallP) (σ : St) (R : Res → St → Prop) : bodyC (algP W) Tryz.prog annF 38 [] σ R = weakW σ (.list .full (opTab.map entPV)) σ fun v σ => R (.ret v) σ := by kernel_rfl
theorem globPV0 : globPV 0 = .eptr (.agg opsPV) 0 := rfl
theorem ops_at : ∀ n : Fin 40,opsPV[2 * n.val]? = some (.str (entryS ((n.val : Nat) : Int)).1) ∧ opsPV[2 * n.val + 1]? = some (.str (entryS ((n.val : Nat) : Int)).2) := by
 have h : (List.range 40).all (fun n => (match opsPV[2 * n]? with | some (.str s) => s == (entryS (n : Int)).1 | _ => false) && (match opsPV[2 * n + 1]? with | some (.str s) => s == (entryS (n : Int)).2 | _ => false)) = true := by decide +kernel
 intro n
 have := List.all_eq_true.1 h n.val (by simp)
 simp only [Bool.and_eq_true] at this
 obtain ⟨h1,h2⟩ := this
 constructor
 ·split at h1
  ·rename_i s hs; rw [hs,eq_of_beq h1]
  ·cases h1
 ·split at h2
  ·rename_i s hs; rw [hs,eq_of_beq h2]
  ·cases h2
theorem c38 (σ : St) : Ret W 38 [] σ (.list .full (opTab.map entPV)) := by
 refine ret_of fun R hR => ?_
 rw [fn38_eq]
 exact weakW_keep hR
theorem c39 (n : Int) (σ : St) : Ret W 39 [.int .i64 n] σ (.bool (knownS n)) := by
 refine ret_of fun R hR => ?_
 rw [fn39_eq]
 unfold fn39
 unfold knownS at hR
 simp only [zz,Nat.reduceEqDiff]
 have e : decide (n ≥ 0) = decide (0 ≤ n) := rfl
 cases h : decide (n ≥ 0) with
 | true =>
  rw [← e,h] at hR
  simp only [zz,Nat.reduceEqDiff]
  exact weakW_keep (by simpa using hR)
 | false =>
  rw [← e,h] at hR
  simp only [zz,Nat.reduceEqDiff]
  exact weakW_keep (by simpa using hR)
end Go.Proofs.YtgghfcchanilpaaGreatDoor
namespace Go.Proofs.YtgghfcchanilpaaGreatDoor
open Go Go.Abs
def fn104 (Pr : Program) (W : CallP) (a0 a1 : PV) (σ : St) (R : Res → St → Prop) : Prop :=
callB W 221 [a0,a1] σ (fun v0 σ1 =>
oF (vBin none .geq v0 (.int .i64 0)) fun v2 =>
wkR σ v2 σ1 R) (pNR R)
theorem fn104_eq (W : CallP) (a0 a1 : PV) (σ : St) (R : Res → St → Prop) : bodyC (algP W) Tryz.prog annF 104 [a0,a1] σ R = fn104 Tryz.prog W a0 a1 σ R := by kernel_rfl
def fn106 (Pr : Program) (W : CallP) (a0 a1 : PV) (σ : St) (R : Res → St → Prop) : Prop :=
callB W 136 [a0,a1] σ (fun v0 σ1 =>
oF (vBin none .geq v0 (.int .i64 0)) fun v2 =>
wkR σ v2 σ1 R) (pNR R)
theorem fn106_eq (W : CallP) (a0 a1 : PV) (σ : St) (R : Res → St → Prop) : bodyC (algP W) Tryz.prog annF 106 [a0,a1] σ R = fn106 Tryz.prog W a0 a1 σ R := by kernel_rfl
def fn108 (Pr : Program) (W : CallP) (a0 a1 : PV) (σ : St) (R : Res → St → Prop) : Prop :=
callB W 222 [a0,a1] σ (fun v0 σ1 =>
oF (vBin none .geq v0 (.int .i64 0)) fun v2 =>
wkR σ v2 σ1 R) (pNR R)
theorem fn108_eq (W : CallP) (a0 a1 : PV) (σ : St) (R : Res → St → Prop) : bodyC (algP W) Tryz.prog annF 108 [a0,a1] σ R = fn108 Tryz.prog W a0 a1 σ R := by kernel_rfl
def fn110 (Pr : Program) (W : CallP) (a0 a1 : PV) (σ : St) (R : Res → St → Prop) : Prop :=
callB W 223 [a0,a1] σ (fun v0 σ1 =>
oF (vBin none .geq v0 (.int .i64 0)) fun v2 =>
wkR σ v2 σ1 R) (pNR R)
theorem fn110_eq (W : CallP) (a0 a1 : PV) (σ : St) (R : Res → St → Prop) : bodyC (algP W) Tryz.prog annF 110 [a0,a1] σ R = fn110 Tryz.prog W a0 a1 σ R := by kernel_rfl
def fn113 (Pr : Program) (W : CallP) (a0 a1 : PV) (σ : St) (R : Res → St → Prop) : Prop :=
callB W 224 [a0,a1] σ (fun v0 σ1 =>
oF (vBin none .geq v0 (.int .i64 0)) fun v2 =>
wkR σ v2 σ1 R) (pNR R)
theorem fn113_eq (W : CallP) (a0 a1 : PV) (σ : St) (R : Res → St → Prop) : bodyC (algP W) Tryz.prog annF 113 [a0,a1] σ R = fn113 Tryz.prog W a0 a1 σ R := by kernel_rfl
def fn136 (Pr : Program) (W : CallP) (a0 a1 : PV) (σ : St) (R : Res → St → Prop) : Prop :=
oF (vLen .sl a0 σ) fun v0 =>
packW [(0,a0),(1,a1),(7,v0),(8,(.int .i64 0))] fun x13 =>
Lfp σ (fun Φ1 x2 σ3 =>
oF (vBin none .lss (x2 8) (x2 7)) fun v4 =>
condW v4 (
oF (vIndex 9 (x2 0) (x2 8)) fun v5 =>
oF (vLoad true 9 v5 σ3) fun v6 =>
callG (algP W) Pr false (x2 1) [v6] σ3 (fun v7 σ8 =>
condW v7 (
wkR σ (x2 8) σ8 R) (
oF (vBin none .add (x2 8) (.int .i64 1)) fun v9 =>
packW [(0,(x2 0)),(1,(x2 1)),(7,(x2 7)),(8,v9)] fun x10 => Φ1 x10 σ8)) (pNR R)) (
wkR σ (.int .i64 (-1)) σ3 R)) x13 σ
theorem fn136_eq (W : CallP) (a0 a1 : PV) (σ : St) (R : Res → St → Prop) : bodyC (algP W) Tryz.prog annF 136 [a0,a1] σ R = fn136 Tryz.prog W a0 a1 σ R := by kernel_rfl
def fn221 (Pr : Program) (W : CallP) (a0 a1 : PV) (σ : St) (R : Res → St → Prop) : Prop :=
oF (vLen .sl a0 σ) fun v0 =>
packW [(0,a0),(1,a1),(7,v0),(8,(.int .i64 0))] fun x13 =>
Lfp σ (fun Φ1 x2 σ3 =>
oF (vBin none .lss (x2 8) (x2 7)) fun v4 =>
condW v4 (
oF (vIndex 1 (x2 0) (x2 8)) fun v5 =>
oF (vLoad true 1 v5 σ3) fun v6 =>
callG (algP W) Pr false (x2 1) [v6] σ3 (fun v7 σ8 =>
condW v7 (
wkR σ (x2 8) σ8 R) (
oF (vBin none .add (x2 8) (.int .i64 1)) fun v9 =>
packW [(0,(x2 0)),(1,(x2 1)),(7,(x2 7)),(8,v9)] fun x10 => Φ1 x10 σ8)) (pNR R)) (
wkR σ (.int .i64 (-1)) σ3 R)) x13 σ
theorem fn221_eq (W : CallP) (a0 a1 : PV) (σ : St) (R : Res → St → Prop) : bodyC (algP W) Tryz.prog annF 221 [a0,a1] σ R = fn221 Tryz.prog W a0 a1 σ R := by kernel_rfl
def fn222 (Pr : Program) (W : CallP) (a0 a1 : PV) (σ : St) (R : Res → St → Prop) : Prop :=
oF (vLen .sl a0 σ) fun v0 =>
packW [(0,a0),(1,a1),(7,v0),(8,(.int .i64 0))] fun x13 =>
Lfp σ (fun Φ1 x2 σ3 =>
oF (vBin none .lss (x2 8) (x2 7)) fun v4 =>
condW v4 (
oF (vIndex 1 (x2 0) (x2 8)) fun v5 =>
oF (vLoad false 1 v5 σ3) fun v6 =>
callG (algP W) Pr false (x2 1) [v6] σ3 (fun v7 σ8 =>
condW v7 (
wkR σ (x2 8) σ8 R) (
oF (vBin none .add (x2 8) (.int .i64 1)) fun v9 =>
packW [(0,(x2 0)),(1,(x2 1)),(7,(x2 7)),(8,v9)] fun x10 => Φ1 x10 σ8)) (pNR R)) (
wkR σ (.int .i64 (-1)) σ3 R)) x13 σ
theorem fn222_eq (W : CallP) (a0 a1 : PV) (σ : St) (R : Res → St → Prop) : bodyC (algP W) Tryz.prog annF 222 [a0,a1] σ R = fn222 Tryz.prog W a0 a1 σ R := by kernel_rfl
def fn223 (Pr : Program) (W : CallP) (a0 a1 : PV) (σ : St) (R : Res → St → Prop) : Prop :=
oF (vLen .sl a0 σ) fun v0 =>
packW [(0,a0),(1,a1),(7,v0),(8,(.int .i64 0))] fun x13 =>
Lfp σ (fun Φ1 x2 σ3 =>
oF (vBin none .lss (x2 8) (x2 7)) fun v4 =>
condW v4 (
oF (vIndex 1 (x2 0) (x2 8)) fun v5 =>
oF (vLoad false 1 v5 σ3) fun v6 =>
callG (algP W) Pr false (x2 1) [v6] σ3 (fun v7 σ8 =>
condW v7 (
wkR σ (x2 8) σ8 R) (
oF (vBin none .add (x2 8) (.int .i64 1)) fun v9 =>
packW [(0,(x2 0)),(1,(x2 1)),(7,(x2 7)),(8,v9)] fun x10 => Φ1 x10 σ8)) (pNR R)) (
wkR σ (.int .i64 (-1)) σ3 R)) x13 σ
theorem fn223_eq (W : CallP) (a0 a1 : PV) (σ : St) (R : Res → St → Prop) : bodyC (algP W) Tryz.prog annF 223 [a0,a1] σ R = fn223 Tryz.prog W a0 a1 σ R := by kernel_rfl
def fn224 (Pr : Program) (W : CallP) (a0 a1 : PV) (σ : St) (R : Res → St → Prop) : Prop :=
oF (vLen .sl a0 σ) fun v0 =>
packW [(0,a0),(1,a1),(7,v0),(8,(.int .i64 0))] fun x13 =>
Lfp σ (fun Φ1 x2 σ3 =>
oF (vBin none .lss (x2 8) (x2 7)) fun v4 =>
condW v4 (
oF (vIndex 1 (x2 0) (x2 8)) fun v5 =>
oF (vLoad false 1 v5 σ3) fun v6 =>
callG (algP W) Pr false (x2 1) [v6] σ3 (fun v7 σ8 =>
condW v7 (
wkR σ (x2 8) σ8 R) (
oF (vBin none .add (x2 8) (.int .i64 1)) fun v9 =>
packW [(0,(x2 0)),(1,(x2 1)),(7,(x2 7)),(8,v9)] fun x10 => Φ1 x10 σ8)) (pNR R)) (
wkR σ (.int .i64 (-1)) σ3 R)) x13 σ
theorem fn224_eq (W : CallP) (a0 a1 : PV) (σ : St) (R : Res → St → Prop) : bodyC (algP W) Tryz.prog annF 224 [a0,a1] σ R = fn224 Tryz.prog W a0 a1 σ R := by kernel_rfl
end Go.Proofs.YtgghfcchanilpaaGreatDoor
