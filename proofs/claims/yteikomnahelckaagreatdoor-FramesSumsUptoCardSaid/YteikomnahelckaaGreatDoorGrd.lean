import Derived.Test.YteikomnahelckaaGreatDoorTabL
import Derived.KernelRfl
import Derived.Test.YteikomnahelckaaGreatDoorAbsTabA
import Derived.Test.YteikomnahelckaaGreatDoorProg
import Derived.Test.YteikomnahelckaaGreatDoorAbsF
set_option linter.unusedVariables false
set_option linter.unusedSimpArgs false
namespace Go.Proofs.YteikomnahelckaaGreatDoor
open Go Go.Abs
structure Ln where
 s : List UInt8
 p : Int
 l : List UInt8
 r : List UInt8
 q : List UInt8
 d : Int
 f : Int
 a : Int
 b : Int
def toLn (x : PV) : Option Ln :=
 match x with
 | .agg [.str s,.int .i64 p,.str l,.str r,.str q,.int .i64 d,.int .i64 f,.int .i64 a,.int .i64 b] => some ⟨s,p,l,r,q,d,f,a,b⟩
 | _ => none
def pvLn (x : Ln) : PV := .agg [.str x.s,.int .i64 x.p,.str x.l,.str x.r,.str x.q,.int .i64 x.d,.int .i64 x.f,.int .i64 x.a,.int .i64 x.b]
def lns : List Ln := (lines201 ++ lines202 ++ lines203).filterMap toLn
theorem lns_eq : lns.map pvLn = lines201 ++ lines202 ++ lines203 := by kernel_rfl
def Ln.ok (x : Ln) : Bool := x.s.all (fun c => decide (c.toNat < 128)) && (decide (x.s.length < 100) && (decide (0 ≤ x.a) && (decide (x.a ≤ x.b) && (decide (x.b < 3) && (decide (0 ≤ x.f) && decide (x.f < 500))))))
theorem lns_ok : lns.all Ln.ok = true := by kernel_rfl
def Ln.cnt (x : Ln) : Nat := (Go.Lib.fields x.s).length * (x.b - x.a + 1).toNat
theorem lns_cnt : (lns.map Ln.cnt).sum = 470 := by kernel_rfl
def Ln.fromTo (x : Ln) : List Int := (List.range (x.b - x.a + 1).toNat).map fun (i : Nat) => x.a + (i : Int)
def allModes : List (List UInt8 × Int) := (lns.flatMap fun x => [x.l,x.r,x.q].flatMap fun s => x.fromTo.map fun k => (s,k)).eraseDups
theorem modes_run : allModes.all (fun m => run206 m.1 m.2) = true := by kernel_rfl
theorem modes_all : lns.all (fun x => x.fromTo.all fun k => allModes.contains (x.l,k) && (allModes.contains (x.r,k) && allModes.contains (x.q,k))) = true := by kernel_rfl
end Go.Proofs.YteikomnahelckaaGreatDoor
namespace Go.Proofs.YteikomnahelckaaGreatDoor
open Go Go.Abs
def fn95 (Pr : Program) (W : CallP) (σ : St) (R : Res → St → Prop) : Prop :=
callB W 136 [] σ (fun a b =>
oF (vLen .sl a b) fun c =>
packW [(1,nL),(7,a),(8,c),(9,nI 0)] fun a =>
Lfp σ (fun c d e =>
bF .lss (d 9) (d 8) fun f =>
condW f (
oF (vIndex 9 (d 7) (d 9)) fun f =>
oF (vLoad true 9 f e) fun f =>
oF (vPut 9 (.agg [(.str []),(nI 0),(.str []),(.str []),(.str []),(nI 0),(nI 0),(nI 0),(nI 0)]) 0 f) fun f =>
pF f 0 fun g =>
callB W 137 [g] e (fun g h =>
oF (vLen .sl g h) fun i =>
packW [(1,d 1),(7,d 7),(8,d 8),(9,d 9),(15,g),(16,i),(17,nI 0),(3,f)] fun f =>
Lfp σ (fun g i j =>
bF .lss (i 17) (i 16) fun k =>
condW k (
oF (vIndex 1 (i 15) (i 17)) fun k =>
oF (vLoad false 1 k j) fun k =>
pF (i 3) 7 fun l =>
packW [(1,i 1),(5,k),(6,l),(7,i 7),(8,i 8),(9,i 9),(15,i 15),(16,i 16),(17,i 17),(3,i 3)] fun k =>
Lfp σ (fun l m n =>
pF (m 3) 8 fun o =>
bF .leq (m 6) o fun o =>
condW o (
oF (vPart true 9 (m 3) 0) fun o =>
callB W 138 [o,(m 5),(m 6)] n (fun o p =>
mF 7 (.agg [(.str []),(.str []),(.str []),(.str []),(nI 0),(nI 0),(nI 0)]) o fun o =>
bindS (vAppend 7 88 (m 1) (.list .full o) p) fun o p =>
bF .add (m 6) (nI 1) fun q =>
kF [(1,o),(5,m 5),(6,q),(7,m 7),(8,m 8),(9,m 9),(15,m 15),(16,m 16),(17,m 17),(3,m 3)] l p) (pNR R)) (
bF .add (m 17) (nI 1) fun l =>
kF [(1,m 1),(7,m 7),(8,m 8),(9,m 9),(15,m 15),(16,m 16),(17,l),(3,m 3)] g n)) k j) (
bF .add (i 9) (nI 1) fun g =>
kF [(1,i 1),(7,i 7),(8,i 8),(9,g)] c j)) f h) (pNR R)) (
wkR σ (d 1) e R)) a b) (pNR R)
theorem fn95_eq (W : CallP) (σ : St) (R : Res → St → Prop) : bodyC (algP W) Tryz.prog ann1 95 [] σ R = fn95 Tryz.prog W  σ R := by kernel_rfl
def fn136 (Pr : Program) (W : CallP) (σ : St) (R : Res → St → Prop) : Prop :=
callB W 201 [] σ (fun a b =>
callB W 202 [] b (fun b c =>
bindS (vAppend 9 104 a b c) fun a b =>
callB W 203 [] b (fun b c =>
bindS (vAppend 9 104 a b c) fun a b =>
wkR σ a b R) (pNR R)) (pNR R)) (pNR R)
theorem fn136_eq (W : CallP) (σ : St) (R : Res → St → Prop) : bodyC (algP W) Tryz.prog ann1 136 [] σ R = fn136 Tryz.prog W  σ R := by kernel_rfl
def fn138 (Pr : Program) (W : CallP) (a0 a1 a2 : PV) (σ : St) (R : Res → St → Prop) : Prop :=
oF (opC.vBoxAny a0) fun a =>
oF (vPart true 9 a.2 0) fun b =>
pF a.2 2 fun c =>
oF (vPart true 9 a.2 0) fun d =>
pF a.2 3 fun e =>
oF (vPart true 9 a.2 0) fun f =>
pF a.2 4 fun g =>
pF a.2 1 fun h =>
pF a.2 5 fun i =>
pF a.2 6 fun j =>
bF .add j a2 fun j =>
pF a.2 7 fun a =>
bF .sub j a fun a =>
callB W 206 [b,c,a2] σ (fun b c =>
callB W 206 [d,e,a2] c (fun c d =>
callB W 206 [f,g,a2] d (fun d e =>
oF (vBuild [(.str []),(.str []),(.str []),(.str []),(nI 0),(nI 0),(nI 0)] [(0,1,a1),(1,1,b),(2,1,c),(3,1,d),(4,1,h),(5,1,i),(6,1,a)]) fun a =>
oF (vPut 7 (.agg [(.str []),(.str []),(.str []),(.str []),(nI 0),(nI 0),(nI 0)]) 0 (.agg a)) fun a =>
wvR σ (resCons (vPart true 7 a 0) (some [])) e R) (pNR R)) (pNR R)) (pNR R)
theorem fn138_eq (W : CallP) (a0 a1 a2 : PV) (σ : St) (R : Res → St → Prop) : bodyC (algP W) Tryz.prog ann1 138 [a0,a1,a2] σ R = fn138 Tryz.prog W a0 a1 a2 σ R := by kernel_rfl
end Go.Proofs.YteikomnahelckaaGreatDoor
namespace Go.Abs
theorem zz : (∀ {ρ : Type} {α : Type} (f : ρ) (a : α) (K : α → ρ),bindO f (some a) K = K a) ∧
 (∀ {ρ : Type} {α : Type} (f : ρ) (K : α → ρ),bindO f none K = f) ∧
 (∀ (r : PV × St) (K : PV → St → Prop),bindS (some r) K = K r.1 r.2) ∧
 (∀ (a b : Prop),condW (.bool true) a b = a) ∧
 (∀ (a b : Prop),condW (.bool false) a b = b) ∧
 (∀ {ρ : Type} (f : ρ) (op : ((Nat → EV) → St → ρ) → ρ) (σ : St) (K : (Nat → EV) → St → ρ),guardG f (.bool true) true op σ K = op K) ∧
 (∀ {ρ : Type} (f : ρ) (op : ((Nat → EV) → St → ρ) → ρ) (σ : St) (K : (Nat → EV) → St → ρ),guardG f (.bool false) false op σ K = op K) ∧
 (∀ {ρ : Type} (f : ρ) (op : ((Nat → EV) → St → ρ) → ρ) (σ : St) (K : (Nat → EV) → St → ρ),guardG f (.bool true) false op σ K = K (fun _ => .v (.tuple [])) σ) ∧
 (∀ {ρ : Type} (f : ρ) (op : ((Nat → EV) → St → ρ) → ρ) (σ : St) (K : (Nat → EV) → St → ρ),guardG f (.bool false) true op σ K = K (fun _ => .v (.tuple [])) σ) ∧
 (∀ {ρ : Type} (f : ρ) (b : Bool) (op : ((Nat → EV) → St → ρ) → ρ) (σ : St) (K : (Nat → EV) → St → ρ),guardG f (.tuple []) b op σ K = K (fun _ => .v (.tuple [])) σ) ∧
 (∀ (k n : Nat) (x : PV) (l : List (Nat × PV)),lookP ((k,x) :: l) n = if n = k then x else lookP l n) ∧
 (∀ (k n : Nat) (x : EV) (l : List (Nat × EV)),lookE ((k,x) :: l) n = if n = k then x else lookE l n) ∧
 (∀ (a b : PV),vPick (.bool true) a b = some a) ∧
 (∀ (a b : PV),vPick (.bool false) a b = some b) ∧
 (∀ (b : Bool),vUn .not (.bool b) = some (.bool !b)) ∧
 (∀ (vs : List PV) (i : Nat),vExtract (.tuple vs) i = vs[i]?) ∧
 (∀ (k : IntKind) (ek : Option EK) (a b : Int),vBin ek .lss (.int k a) (.int k b) = some (.bool (decide (a < b)))) ∧
 (∀ (k : IntKind) (ek : Option EK) (a b : Int),vBin ek .leq (.int k a) (.int k b) = some (.bool (decide (a ≤ b)))) ∧
 (∀ (k : IntKind) (ek : Option EK) (a b : Int),vBin ek .gtr (.int k a) (.int k b) = some (.bool (decide (a > b)))) ∧
 (∀ (k : IntKind) (ek : Option EK) (a b : Int),vBin ek .geq (.int k a) (.int k b) = some (.bool (decide (a ≥ b)))) ∧
 (∀ (k : IntKind) (ek : Option EK) (a b : Int),vBin ek .eql (.int k a) (.int k b) = some (.bool (a == b))) ∧
 (∀ (k : IntKind) (ek : Option EK) (a b : Int),vBin ek .neq (.int k a) (.int k b) = some (.bool (a != b))) ∧
 (∀ (ek : Option EK) (a b : List UInt8),vBin ek .eql (.str a) (.str b) = some (.bool (a == b))) ∧
 (∀ (ek : Option EK) (a b : List UInt8),vBin ek .neq (.str a) (.str b) = some (.bool !(a == b))) ∧
 (∀ (l : List UInt8) (σ : St),vLen .str (.str l) σ = some (.int .i64 l.length)) ∧
 (∀ (k : LK) (l : List PV) (σ : St),vLen .sl (.list k l) σ = some (.int .i64 l.length)) ∧
 (∀ (b g z o l : Nat) (σ : St),vLen .sl (.sref b g z o l) σ = some (.int .i64 l)) ∧
 (∀ (ag : Bool) (sz : Nat) (e : PV) (off : Nat) (σ : St),vLoad ag sz (.eptr e off) σ = vPart ag sz e off) ∧
 (∀ (cs : List PV) (off sz : Nat),vPart false sz (.agg cs) off = cs[off]?) ∧
 (∀ (s : List UInt8) (sz : Nat),vPart false sz (.str s) 0 = some (.str s)) ∧
 (∀ (s : Bool) (sz : Nat),vPart false sz (.bool s) 0 = some (.bool s)) ∧
 (∀ (q : IntKind) (s : Int) (sz : Nat),vPart false sz (.int q s) 0 = some (.int q s)) ∧
 (∀ (q : LK) (s : List PV) (sz : Nat),vPart false sz (.list q s) 0 = some (.list q s)) ∧
 (∀ (a b : PV),vPart true 2 (.agg [a,b]) 0 = some (.agg [a,b])) ∧
 (∀ (e : PV) (off o : Nat),vField o (.eptr e off) = some (.eptr e (off + o))) ∧
 (∀ (b g i off o : Nat),vField o (.ptr b g i off) = some (.ptr b g i (off + o))) ∧
 (∀ {α : Type} {a : α} {l : List α},(a :: l)[0]? = some a) ∧
 (∀ {α : Type} {l : List α} {i : Nat} {a : α},(a :: l)[i + 1]? = l[i]?) ∧
 (∀ x : PV,(EV.v x).pv = x) ∧
 (∀ s o : Nat,(EV.loc s o).pv = .any) ∧
 (∀ n : Nat,0 + n = n) ∧
 (∀ n : Nat,n + 0 = n) ∧
 ((!true) = false) ∧
 ((!false) = true) ∧
 (∀ {m n : Nat},(m : Int) < (n : Int) ↔ m < n) ∧
 (∀ {α : Type} {h : Decidable True} (a b : α),(@ite α True h a b) = a) ∧
 (∀ {α : Type} {h : Decidable False} (a b : α),(@ite α False h a b) = b) ∧
 (∀ {h : Decidable True},@decide True h = true) ∧
 (∀ {h : Decidable False},@decide False h = false) ∧
 (∀ (l : List (Nat × PV)) (K : (Nat → PV) → Prop),packW l K = K (lookP l)) ∧
 (∀ (l : List UInt8) (K : List UInt8 → Prop),sameW (.str l) K = K l) ∧
 (∀ K : Prop,heldW true K = K) ∧
 (∀ {α : Type} (a : α),(a = a) = True) := by
 refine ⟨?_,?_,?_,?_,?_,?_,?_,?_,?_,?_,?_,?_,?_,?_,?_,?_,?_,?_,?_,?_,?_,?_,?_,?_,?_,?_,?_,?_,?_,?_,?_,?_,?_,?_,?_,?_,?_,?_,?_,?_,?_,?_,?_,?_,?_,?_,?_,?_,?_,?_,?_,?_,?_⟩
 all_goals intros
 all_goals first | exact packW_eq _ _ | rfl | simp
end Go.Abs
namespace Go.Abs
abbrev Str := List UInt8
theorem orG {b : Bool} {k : Nat} {op : ((Nat → EV) → St → Prop) → Prop} {σ : St} {C : PV → St → Prop} (c : Bool)
  (h1 : b = false → ∀ J : (Nat → EV) → St → Prop,(∀ y,(y k).pv = .bool c → J y σ) → op J) (h2 : C (.bool (b || c)) σ) :
  guardG False (.bool b) false op σ (fun y σ' => bindO False (vPick (.bool b) (.bool true) (y k).pv) fun v => C v σ') := by
 cases b with
 | true => exact h2
 | false =>
  show op _
  refine h1 rfl _ fun y hy => ?_
  show bindO False (vPick (.bool false) (.bool true) (y k).pv) fun v => C v σ
  rw [hy]
  exact h2
theorem andG {b : Bool} {k : Nat} {op : ((Nat → EV) → St → Prop) → Prop} {σ : St} {C : PV → St → Prop} (c : Bool)
  (h1 : b = true → ∀ J : (Nat → EV) → St → Prop,(∀ y,(y k).pv = .bool c → J y σ) → op J) (h2 : C (.bool (b && c)) σ) :
  guardG False (.bool b) true op σ (fun y σ' => bindO False (vPick (.bool b) (y k).pv (.bool false)) fun v => C v σ') := by
 cases b with
 | false => exact h2
 | true =>
  show op _
  refine h1 rfl _ fun y hy => ?_
  show bindO False (vPick (.bool true) (y k).pv (.bool false)) fun v => C v σ
  rw [hy]
  exact h2
theorem condB {b : Bool} {A B : Prop} (h1 : b = true → A) (h2 : b = false → B) : condW (.bool b) A B := by
 cases b with
 | true => exact h1 rfl
 | false => exact h2 rfl
end Go.Abs
