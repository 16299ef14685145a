import Derived.Test.YtgghfcchanilpaaGreatDoorAbsF
import Derived.Lib.AtoiAllCases
import Derived.Lib.ParseIntBTie
import Derived.Test.YtgghfcchanilpaaGreatDoorAbsExt
set_option linter.unusedVariables false
set_option linter.unusedSimpArgs false
namespace Go.Abs
theorem zz : (∀ {ρ : Type} {α : Type} (f : ρ) (a : α) (K : α → ρ),bindO f (some a) K = K a) ∧
 (∀ {ρ : Type} {α : Type} (f : ρ) (K : α → ρ),bindO f none K = f) ∧
 (∀ (r : PV × St) (K : PV → St → Prop),bindS (some r) K = K r.1 r.2) ∧
 (∀ (a b : Prop),condW (.bool true) a b = a) ∧
 (∀ (a b : Prop),condW (.bool false) a b = b) ∧
 (∀ {ρ : Type} (f : ρ) (op : ((Nat → EV) → St → ρ) → ρ) (σ : St) (K : (Nat → EV) → St → ρ),guardG f (.bool true) true op σ K = op K) ∧
 (∀ {ρ : Type} (f : ρ) (op : ((Nat → EV) → St → ρ) → ρ) (σ : St) (K : (Nat → EV) → St → ρ),guardG f (.bool false) false op σ K = op K) ∧
 (∀ {ρ : Type} (f : ρ) (op : ((Nat → EV) → St → ρ) → ρ) (σ : St) (K : (Nat → EV) → St → ρ),guardG f (.bool true) false op σ K = K (fun _ => .v (.tuple [])) σ) ∧
 (∀ {ρ : Type} (f : ρ) (op : ((Nat → EV) → St → ρ) → ρ) (σ : St) (K : (Nat → EV) → St → ρ),guardG f (.bool false) true op σ K = K (fun _ => .v (.tuple [])) σ) ∧
 (∀ {ρ : Type} (f : ρ) (b : Bool) (op : ((Nat → EV) → St → ρ) → ρ) (σ : St) (K : (Nat → EV) → St → ρ),guardG f (.tuple []) b op σ K = K (fun _ => .v (.tuple [])) σ) ∧
 (∀ (k n : Nat) (x : PV) (l : List (Nat × PV)),lookP ((k,x) :: l) n = if n = k then x else lookP l n) ∧
 (∀ (k n : Nat) (x : EV) (l : List (Nat × EV)),lookE ((k,x) :: l) n = if n = k then x else lookE l n) ∧
 (∀ (a b : PV),vPick (.bool true) a b = some a) ∧
 (∀ (a b : PV),vPick (.bool false) a b = some b) ∧
 (∀ (b : Bool),vUn .not (.bool b) = some (.bool !b)) ∧
 (∀ (vs : List PV) (i : Nat),vExtract (.tuple vs) i = vs[i]?) ∧
 (∀ (k : IntKind) (ek : Option EK) (a b : Int),vBin ek .lss (.int k a) (.int k b) = some (.bool (decide (a < b)))) ∧
 (∀ (k : IntKind) (ek : Option EK) (a b : Int),vBin ek .leq (.int k a) (.int k b) = some (.bool (decide (a ≤ b)))) ∧
 (∀ (k : IntKind) (ek : Option EK) (a b : Int),vBin ek .gtr (.int k a) (.int k b) = some (.bool (decide (a > b)))) ∧
 (∀ (k : IntKind) (ek : Option EK) (a b : Int),vBin ek .geq (.int k a) (.int k b) = some (.bool (decide (a ≥ b)))) ∧
 (∀ (k : IntKind) (ek : Option EK) (a b : Int),vBin ek .eql (.int k a) (.int k b) = some (.bool (a == b))) ∧
 (∀ (k : IntKind) (ek : Option EK) (a b : Int),vBin ek .neq (.int k a) (.int k b) = some (.bool (a != b))) ∧
 (∀ (ek : Option EK) (a b : List UInt8),vBin ek .eql (.str a) (.str b) = some (.bool (a == b))) ∧
 (∀ (ek : Option EK) (a b : List UInt8),vBin ek .neq (.str a) (.str b) = some (.bool !(a == b))) ∧
 (∀ (l : List UInt8) (σ : St),vLen .str (.str l) σ = some (.int .i64 l.length)) ∧
 (∀ (k : LK) (l : List PV) (σ : St),vLen .sl (.list k l) σ = some (.int .i64 l.length)) ∧
 (∀ (b g z o l : Nat) (σ : St),vLen .sl (.sref b g z o l) σ = some (.int .i64 l)) ∧
 (∀ (ag : Bool) (sz : Nat) (e : PV) (off : Nat) (σ : St),vLoad ag sz (.eptr e off) σ = vPart ag sz e off) ∧
 (∀ (cs : List PV) (off sz : Nat),vPart false sz (.agg cs) off = cs[off]?) ∧
 (∀ (s : List UInt8) (sz : Nat),vPart false sz (.str s) 0 = some (.str s)) ∧
 (∀ (s : Bool) (sz : Nat),vPart false sz (.bool s) 0 = some (.bool s)) ∧
 (∀ (q : IntKind) (s : Int) (sz : Nat),vPart false sz (.int q s) 0 = some (.int q s)) ∧
 (∀ (q : LK) (s : List PV) (sz : Nat),vPart false sz (.list q s) 0 = some (.list q s)) ∧
 (∀ (a b : PV),vPart true 2 (.agg [a,b]) 0 = some (.agg [a,b])) ∧
 (∀ (e : PV) (off o : Nat),vField o (.eptr e off) = some (.eptr e (off + o))) ∧
 (∀ (b g i off o : Nat),vField o (.ptr b g i off) = some (.ptr b g i (off + o))) ∧
 (∀ {α : Type} {a : α} {l : List α},(a :: l)[0]? = some a) ∧
 (∀ {α : Type} {l : List α} {i : Nat} {a : α},(a :: l)[i + 1]? = l[i]?) ∧
 (∀ x : PV,(EV.v x).pv = x) ∧
 (∀ s o : Nat,(EV.loc s o).pv = .any) ∧
 (∀ n : Nat,0 + n = n) ∧
 (∀ n : Nat,n + 0 = n) ∧
 ((!true) = false) ∧
 ((!false) = true) ∧
 (∀ {m n : Nat},(m : Int) < (n : Int) ↔ m < n) ∧
 (∀ {α : Type} {h : Decidable True} (a b : α),(@ite α True h a b) = a) ∧
 (∀ {α : Type} {h : Decidable False} (a b : α),(@ite α False h a b) = b) ∧
 (∀ {h : Decidable True},@decide True h = true) ∧
 (∀ {h : Decidable False},@decide False h = false) ∧
 (∀ (l : List (Nat × PV)) (K : (Nat → PV) → Prop),packW l K = K (lookP l)) ∧
 (∀ (l : List UInt8) (K : List UInt8 → Prop),sameW (.str l) K = K l) ∧
 (∀ {α : Type} (a : α),(a = a) = True) := by
 refine ⟨?_,?_,?_,?_,?_,?_,?_,?_,?_,?_,?_,?_,?_,?_,?_,?_,?_,?_,?_,?_,?_,?_,?_,?_,?_,?_,?_,?_,?_,?_,?_,?_,?_,?_,?_,?_,?_,?_,?_,?_,?_,?_,?_,?_,?_,?_,?_,?_,?_,?_,?_,?_⟩
 all_goals intros
 all_goals first | exact packW_eq _ _ | rfl | simp
end Go.Abs
namespace Go.Abs
open Go.Lib
theorem any_cons_false {α : Type} {q : α → Bool} {l : List α} {i : Nat} {a : α} (hp : (l.take i).any q = false) (h : l[i]? = some a) (hq : q a = false) : (l.take (i + 1)).any q = false := by
 rw [List.take_add_one,h,List.any_append,hp]
 simp [hq]
theorem any_of_get {α : Type} {q : α → Bool} {l : List α} {i : Nat} {a : α} (h : l[i]? = some a) (hq : q a = true) : l.any q = true := List.any_eq_true.2 ⟨a,List.mem_of_getElem? h,hq⟩
end Go.Abs
namespace Go.Abs
open Go.Lib
abbrev Str := List UInt8
structure OperS where
 k : Int
 a : Int
 b : Int
 deriving DecidableEq
structure InstS where
 op : Int
 s : OperS
 t : OperS
 d : OperS
 n : Int
 k : Int
 deriving DecidableEq
def pvOper (o : OperS) : PV := .agg [.int .i64 o.k,.int .i64 o.a,.int .i64 o.b]
def pvInst (i : InstS) : PV := .agg [.int .i64 i.op,.int .i64 i.s.k,.int .i64 i.s.a,.int .i64 i.s.b,.int .i64 i.t.k,.int .i64 i.t.a,.int .i64 i.t.b,.int .i64 i.d.k,.int .i64 i.d.a,.int .i64 i.d.b,.int .i64 i.n,.int .i64 i.k]
def OperS.ok (o : OperS) : Bool := inI64 o.k && (inI64 o.a && inI64 o.b)
def InstS.ok (i : InstS) : Bool := inI64 i.op && (i.s.ok && (i.t.ok && (i.d.ok && (inI64 i.n && inI64 i.k))))
def opTab : List (Str × Str) := [([110,111,112],[45,45,45,45,45]),([109,111,118,101],[115,45,115,45,109]),([117,110,100,101,102],[45,45,115,45,109]),([99,111,110,115,116],[45,45,115,110,45]),([114,101,97,108],[45,45,115,110,101]),([116,101,120,116],[45,45,115,45,116]),([102,111,114,109],[45,45,115,45,116]),([110,105,108],[45,45,115,45,45]),([101,109,112,116,121],[45,45,115,45,45]),([106,117,109,112],[45,45,45,45,106]),([102,97,108,115,101],[115,45,45,45,106]),([99,104,111,111,115,101],[115,45,45,45,99]),([99,111,110,102,111,114,109],[115,45,45,45,99]),([101,110,116,101,114],[45,45,45,45,103]),([108,101,97,118,101],[111,45,45,77,103]),([116,105,99,107],[45,45,45,45,45]),([99,97,108,108],[115,111,111,45,45]),([114,101,116,117,114,110],[45,45,45,45,45]),([103,111,116,111],[114,45,45,45,74]),([112,97,114],[45,45,45,45,99]),([115,116,111,112],[45,45,45,45,45]),([114,111,117,116],[45,45,115,45,102]),([117,110,105,116,101],[111,45,115,45,117]),([114,101,117,110,105,116,101],[115,45,115,45,112]),([112,97,114,116],[115,45,111,45,117]),([102,105,101,108,100],[115,45,115,45,111]),([100,101,114,101,102],[115,45,115,45,45]),([97,115,115,105,103,110],[115,115,45,45,45]),([105,115],[115,115,115,45,45]),([117,115,101],[115,45,45,45,104]),([115,112,97,110],[115,45,45,45,68]),([103,101,110],[111,45,115,45,104]),([115,117,98],[115,115,115,104,100]),([116,114,105,109],[115,111,115,98,100]),([114,111,119],[115,45,115,45,45]),([99,111,108,108,97,116],[111,45,115,45,107]),([119,105,100,101,110],[115,45,115,45,45]),([111,112,101,114],[115,111,111,45,113]),([115,116,100],[45,45,115,45,105]),([116,114,97,110,115],[111,111,45,45,120])]
def knownS (n : Int) : Bool := decide (0 ≤ n) && decide (n < 40)
def entryS (n : Int) : Str × Str := opTab.getD n.toNat ([],[])
def formS (n : Int) : Str := if knownS n then (entryS n).2 else []
end Go.Abs
