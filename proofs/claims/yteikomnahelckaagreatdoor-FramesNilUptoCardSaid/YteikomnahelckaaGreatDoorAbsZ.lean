import Derived.Test.YteikomnahelckaaGreatDoorAbsF
set_option linter.unusedVariables false
set_option linter.unusedSimpArgs false
namespace Go.Abs
theorem zz : (∀ {ρ : Type} {α : Type} (f : ρ) (a : α) (K : α → ρ),bindO f (some a) K = K a) ∧
 (∀ {ρ : Type} {α : Type} (f : ρ) (K : α → ρ),bindO f none K = f) ∧
 (∀ (r : PV × St) (K : PV → St → Prop),bindS (some r) K = K r.1 r.2) ∧
 (∀ (a b : Prop),condW (.bool true) a b = a) ∧
 (∀ (a b : Prop),condW (.bool false) a b = b) ∧
 (∀ {ρ : Type} (f : ρ) (op : ((Nat → EV) → St → ρ) → ρ) (σ : St) (K : (Nat → EV) → St → ρ),guardG f (.bool true) true op σ K = op K) ∧
 (∀ {ρ : Type} (f : ρ) (op : ((Nat → EV) → St → ρ) → ρ) (σ : St) (K : (Nat → EV) → St → ρ),guardG f (.bool false) false op σ K = op K) ∧
 (∀ {ρ : Type} (f : ρ) (op : ((Nat → EV) → St → ρ) → ρ) (σ : St) (K : (Nat → EV) → St → ρ),guardG f (.bool true) false op σ K = K (fun _ => .v (.tuple [])) σ) ∧
 (∀ {ρ : Type} (f : ρ) (op : ((Nat → EV) → St → ρ) → ρ) (σ : St) (K : (Nat → EV) → St → ρ),guardG f (.bool false) true op σ K = K (fun _ => .v (.tuple [])) σ) ∧
 (∀ {ρ : Type} (f : ρ) (b : Bool) (op : ((Nat → EV) → St → ρ) → ρ) (σ : St) (K : (Nat → EV) → St → ρ),guardG f (.tuple []) b op σ K = K (fun _ => .v (.tuple [])) σ) ∧
 (∀ (k n : Nat) (x : PV) (l : List (Nat × PV)),lookP ((k,x) :: l) n = if n = k then x else lookP l n) ∧
 (∀ (k n : Nat) (x : EV) (l : List (Nat × EV)),lookE ((k,x) :: l) n = if n = k then x else lookE l n) ∧
 (∀ (a b : PV),vPick (.bool true) a b = some a) ∧
 (∀ (a b : PV),vPick (.bool false) a b = some b) ∧
 (∀ (b : Bool),vUn .not (.bool b) = some (.bool !b)) ∧
 (∀ (vs : List PV) (i : Nat),vExtract (.tuple vs) i = vs[i]?) ∧
 (∀ (k : IntKind) (ek : Option EK) (a b : Int),vBin ek .lss (.int k a) (.int k b) = some (.bool (decide (a < b)))) ∧
 (∀ (k : IntKind) (ek : Option EK) (a b : Int),vBin ek .leq (.int k a) (.int k b) = some (.bool (decide (a ≤ b)))) ∧
 (∀ (k : IntKind) (ek : Option EK) (a b : Int),vBin ek .gtr (.int k a) (.int k b) = some (.bool (decide (a > b)))) ∧
 (∀ (k : IntKind) (ek : Option EK) (a b : Int),vBin ek .geq (.int k a) (.int k b) = some (.bool (decide (a ≥ b)))) ∧
 (∀ (k : IntKind) (ek : Option EK) (a b : Int),vBin ek .eql (.int k a) (.int k b) = some (.bool (a == b))) ∧
 (∀ (k : IntKind) (ek : Option EK) (a b : Int),vBin ek .neq (.int k a) (.int k b) = some (.bool (a != b))) ∧
 (∀ (ek : Option EK) (a b : List UInt8),vBin ek .eql (.str a) (.str b) = some (.bool (a == b))) ∧
 (∀ (ek : Option EK) (a b : List UInt8),vBin ek .neq (.str a) (.str b) = some (.bool !(a == b))) ∧
 (∀ (l : List UInt8) (σ : St),vLen .str (.str l) σ = some (.int .i64 l.length)) ∧
 (∀ (k : LK) (l : List PV) (σ : St),vLen .sl (.list k l) σ = some (.int .i64 l.length)) ∧
 (∀ (b g z o l : Nat) (σ : St),vLen .sl (.sref b g z o l) σ = some (.int .i64 l)) ∧
 (∀ (ag : Bool) (sz : Nat) (e : PV) (off : Nat) (σ : St),vLoad ag sz (.eptr e off) σ = vPart ag sz e off) ∧
 (∀ (cs : List PV) (off sz : Nat),vPart false sz (.agg cs) off = cs[off]?) ∧
 (∀ (s : List UInt8) (sz : Nat),vPart false sz (.str s) 0 = some (.str s)) ∧
 (∀ (s : Bool) (sz : Nat),vPart false sz (.bool s) 0 = some (.bool s)) ∧
 (∀ (q : IntKind) (s : Int) (sz : Nat),vPart false sz (.int q s) 0 = some (.int q s)) ∧
 (∀ (q : LK) (s : List PV) (sz : Nat),vPart false sz (.list q s) 0 = some (.list q s)) ∧
 (∀ (a b : PV),vPart true 2 (.agg [a,b]) 0 = some (.agg [a,b])) ∧
 (∀ (e : PV) (off o : Nat),vField o (.eptr e off) = some (.eptr e (off + o))) ∧
 (∀ (b g i off o : Nat),vField o (.ptr b g i off) = some (.ptr b g i (off + o))) ∧
 (∀ {α : Type} {a : α} {l : List α},(a :: l)[0]? = some a) ∧
 (∀ {α : Type} {l : List α} {i : Nat} {a : α},(a :: l)[i + 1]? = l[i]?) ∧
 (∀ x : PV,(EV.v x).pv = x) ∧
 (∀ s o : Nat,(EV.loc s o).pv = .any) ∧
 (∀ n : Nat,0 + n = n) ∧
 (∀ n : Nat,n + 0 = n) ∧
 ((!true) = false) ∧
 ((!false) = true) ∧
 (∀ {m n : Nat},(m : Int) < (n : Int) ↔ m < n) ∧
 (∀ {α : Type} {h : Decidable True} (a b : α),(@ite α True h a b) = a) ∧
 (∀ {α : Type} {h : Decidable False} (a b : α),(@ite α False h a b) = b) ∧
 (∀ {h : Decidable True},@decide True h = true) ∧
 (∀ {h : Decidable False},@decide False h = false) ∧
 (∀ (l : List (Nat × PV)) (K : (Nat → PV) → Prop),packW l K = K (lookP l)) ∧
 (∀ (l : List UInt8) (K : List UInt8 → Prop),sameW (.str l) K = K l) ∧
 (∀ {α : Type} (a : α),(a = a) = True) := by
 refine ⟨?_,?_,?_,?_,?_,?_,?_,?_,?_,?_,?_,?_,?_,?_,?_,?_,?_,?_,?_,?_,?_,?_,?_,?_,?_,?_,?_,?_,?_,?_,?_,?_,?_,?_,?_,?_,?_,?_,?_,?_,?_,?_,?_,?_,?_,?_,?_,?_,?_,?_,?_,?_⟩
 all_goals intros
 all_goals first | exact packW_eq _ _ | rfl | simp
end Go.Abs
