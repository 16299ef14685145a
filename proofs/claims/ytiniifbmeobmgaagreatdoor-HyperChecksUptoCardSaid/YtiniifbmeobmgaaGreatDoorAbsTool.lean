/- Words for walking through printed bodies. -/
import Derived.Test.YtiniifbmeobmgaaGreatDoorAbsBool
set_option linter.unusedVariables false
set_option linter.unusedSimpArgs false
namespace Go.Abs

section
variable {ρ : Type}

@[simp] theorem bindO_some_eq {α : Type} (f : ρ) (a : α) (K : α → ρ) : bindO f (some a) K = K a := rfl
@[simp] theorem bindO_none_eq {α : Type} (f : ρ) (K : α → ρ) : bindO f none K = f := rfl
@[simp] theorem bindS_some (r : PV × St) (K : PV → St → Prop) : bindS (some r) K = K r.1 r.2 := rfl
@[simp] theorem condW_true (a b : Prop) : condW (.bool true) a b = a := rfl
@[simp] theorem condW_false (a b : Prop) : condW (.bool false) a b = b := rfl
@[simp] theorem guardG_true (f : ρ) (op : ((Nat → EV) → St → ρ) → ρ) (σ : St) (K : (Nat → EV) → St → ρ) : guardG f (.bool true) true op σ K = op K := rfl
@[simp] theorem guardG_false (f : ρ) (op : ((Nat → EV) → St → ρ) → ρ) (σ : St) (K : (Nat → EV) → St → ρ) : guardG f (.bool false) false op σ K = op K := rfl
@[simp] theorem guardG_tf (f : ρ) (op : ((Nat → EV) → St → ρ) → ρ) (σ : St) (K : (Nat → EV) → St → ρ) : guardG f (.bool true) false op σ K = K (fun _ => .v (.tuple [])) σ := rfl
@[simp] theorem guardG_ft (f : ρ) (op : ((Nat → EV) → St → ρ) → ρ) (σ : St) (K : (Nat → EV) → St → ρ) : guardG f (.bool false) true op σ K = K (fun _ => .v (.tuple [])) σ := rfl
@[simp] theorem guardG_skip (f : ρ) (b : Bool) (op : ((Nat → EV) → St → ρ) → ρ) (σ : St) (K : (Nat → EV) → St → ρ) : guardG f (.tuple []) b op σ K = K (fun _ => .v (.tuple [])) σ := rfl
@[simp] theorem pv_v (x : PV) : (EV.v x).pv = x := rfl
@[simp] theorem pv_loc (s o : Nat) : (EV.loc s o).pv = .any := rfl
@[simp] theorem lookP_cons (k n : Nat) (x : PV) (l : List (Nat × PV)) : lookP ((k, x) :: l) n = if n = k then x else lookP l n := rfl
@[simp] theorem lookE_cons (k n : Nat) (x : EV) (l : List (Nat × EV)) : lookE ((k, x) :: l) n = if n = k then x else lookE l n := rfl
@[simp] theorem vPick_true (a b : PV) : vPick (.bool true) a b = some a := rfl
@[simp] theorem vPick_false (a b : PV) : vPick (.bool false) a b = some b := rfl
@[simp] theorem vUn_not (b : Bool) : vUn .not (.bool b) = some (.bool !b) := rfl
@[simp] theorem vExtract_tuple (vs : List PV) (i : Nat) : vExtract (.tuple vs) i = vs[i]? := rfl

variable (ek : Option EK) (k : IntKind)
@[simp] theorem vBin_lss (a b : Int) : vBin ek .lss (.int k a) (.int k b) = some (.bool (decide (a < b))) := by simp [vBin, vArith]
@[simp] theorem vBin_leq (a b : Int) : vBin ek .leq (.int k a) (.int k b) = some (.bool (decide (a ≤ b))) := by simp [vBin, vArith]
@[simp] theorem vBin_gtr (a b : Int) : vBin ek .gtr (.int k a) (.int k b) = some (.bool (decide (a > b))) := by simp [vBin, vArith]
@[simp] theorem vBin_geq (a b : Int) : vBin ek .geq (.int k a) (.int k b) = some (.bool (decide (a ≥ b))) := by simp [vBin, vArith]
@[simp] theorem vBin_eql (a b : Int) : vBin ek .eql (.int k a) (.int k b) = some (.bool (a == b)) := by simp [vBin, vArith]
@[simp] theorem vBin_neq (a b : Int) : vBin ek .neq (.int k a) (.int k b) = some (.bool (a != b)) := by simp [vBin, vArith]
@[simp] theorem vBin_eql_str (a b : List UInt8) : vBin ek .eql (.str a) (.str b) = some (.bool (a == b)) := by simp [vBin, vStrOp]
@[simp] theorem vBin_neq_str (a b : List UInt8) : vBin ek .neq (.str a) (.str b) = some (.bool !(a == b)) := by simp [vBin, vStrOp]
@[simp] theorem vBin_eql_bool (a b : Bool) : vBin (some .bool) .eql (.bool a) (.bool b) = some (.bool (a == b)) := by simp [vBin, vEq]
@[simp] theorem vBin_neq_bool (a b : Bool) : vBin (some .bool) .neq (.bool a) (.bool b) = some (.bool !(a == b)) := by simp [vBin, vEq]

theorem wrap64_small {n : Int} (h1 : -9223372036854775808 ≤ n) (h2 : n < 9223372036854775808) : IntKind.wrap .i64 n = n := by
  simp only [IntKind.wrap, IntKind.bits, IntKind.signed]
  simp
  omega

theorem vBin_add {a b : Int} (h1 : -9223372036854775808 ≤ a + b) (h2 : a + b < 9223372036854775808) : vBin ek .add (.int .i64 a) (.int .i64 b) = some (.int .i64 (a + b)) := by
  simp [vBin, vArith, wrap64_small h1 h2]
theorem vBin_sub {a b : Int} (h1 : -9223372036854775808 ≤ a - b) (h2 : a - b < 9223372036854775808) : vBin ek .sub (.int .i64 a) (.int .i64 b) = some (.int .i64 (a - b)) := by
  simp [vBin, vArith, wrap64_small h1 h2]
theorem vBin_add_str {a b : List UInt8} (h : a.length + b.length ≤ 4611686018427387904) : vBin ek .add (.str a) (.str b) = some (.str (a ++ b)) := by
  simp [vBin, vStrOp, h]

@[simp] theorem vLen_str (l : List UInt8) (σ : St) : vLen .str (.str l) σ = some (.int .i64 l.length) := rfl
@[simp] theorem vLen_list (k : LK) (l : List PV) (σ : St) : vLen .sl (.list k l) σ = some (.int .i64 l.length) := rfl
@[simp] theorem vLen_sref (b g z o l : Nat) (σ : St) : vLen .sl (.sref b g z o l) σ = some (.int .i64 l) := rfl

theorem vStrAt_nat {l : List UInt8} {i : Nat} {b : UInt8} (h : l[i]? = some b) : vStrAt (.str l) (.int k i) = some (.int .u8 b.toNat) := by
  simp [vStrAt, h]
theorem vIndex_list {lk : LK} {xs : List PV} {sz i : Nat} {e : PV} {cs : List PV} (h : xs[i]? = some e) (hc : e.cells? = some cs) (hl : cs.length = sz) : vIndex sz (.list lk xs) (.int k i) = some (.eptr e 0) := by
  simp [vIndex, h, hc, hl]
@[simp] theorem vLoad_eptr (ag : Bool) (sz : Nat) (e : PV) (off : Nat) (σ : St) : vLoad ag sz (.eptr e off) σ = vPart ag sz e off := rfl
@[simp] theorem vPart_agg (cs : List PV) (off sz : Nat) : vPart false sz (.agg cs) off = cs[off]? := rfl
@[simp] theorem vPart_str (s : List UInt8) (sz : Nat) : vPart false sz (.str s) 0 = some (.str s) := rfl
@[simp] theorem vPart_bool (s : Bool) (sz : Nat) : vPart false sz (.bool s) 0 = some (.bool s) := rfl
@[simp] theorem vPart_int (q : IntKind) (s : Int) (sz : Nat) : vPart false sz (.int q s) 0 = some (.int q s) := rfl
@[simp] theorem vPart_list (q : LK) (s : List PV) (sz : Nat) : vPart false sz (.list q s) 0 = some (.list q s) := rfl
theorem vPart_whole {cs : List PV} {sz : Nat} (h : cs.length = sz) : vPart true sz (.agg cs) 0 = some (.agg cs) := by simp [vPart, h]
@[simp] theorem vPart_two (a b : PV) : vPart true 2 (.agg [a, b]) 0 = some (.agg [a, b]) := rfl
@[simp] theorem vField_eptr (e : PV) (off o : Nat) : vField o (.eptr e off) = some (.eptr e (off + o)) := rfl
@[simp] theorem vField_ptr (b g i off o : Nat) : vField o (.ptr b g i off) = some (.ptr b g i (off + o)) := rfl
end

theorem CutW_of {A : ((Nat → PV) → St → Prop) → Prop} {B : (Nat → PV) → St → Prop} (h : A B) : CutW A B := ⟨B, fun _ _ h => h, h⟩

theorem CutW_by {A : ((Nat → PV) → St → Prop) → Prop} {B : (Nat → PV) → St → Prop} (J : (Nat → PV) → St → Prop) (hB : ∀ x σ, J x σ → B x σ) (h : A J) : CutW A B := ⟨J, hB, h⟩

theorem weakW_keep {σ₀ : St} {v : PV} {σ' : St} {K : PV → St → Prop} (h : K v σ') : weakW σ₀ v σ' K := ⟨v, σ', .keep, h⟩

theorem weakW_clean {σ₀ : St} {v v' : PV} {σ' : St} {K : PV → St → Prop} (hp : σ₀ <+: σ') (hf : Frz σ' σ₀.length v v') (h : K v' σ₀) : weakW σ₀ v σ' K := by
  obtain ⟨g, rfl⟩ := hp
  exact ⟨v', σ₀, .clean g v' rfl hf, h⟩

/-- A call that answers one value and leaves the store as it was. -/
def Ret (W : CallP) (f : FuncId) (args : List PV) (σ : St) (v : PV) : Prop := ∀ R : Res → St → Prop, R (.ret v) σ → W f args σ R

theorem Ret.callB {W : CallP} {f : FuncId} {args : List PV} {σ : St} {v : PV} (h : Ret W f args σ v) {K X : PV → St → Prop} (k : K v σ) : callB W f args σ K X := h _ k

theorem Ret.callC {W : CallP} {f : FuncId} {args : List PV} {σ : St} {v : PV} (h : Ret W f args σ v) {K : PV → St → Prop} (k : K v σ) : callC W f args σ K := h _ ⟨rfl, k⟩

/-- Turns that are counted. -/
theorem Lfp_up {F : ((Nat → PV) → St → Prop) → (Nat → PV) → St → Prop} (N : Nat) (I : Nat → (Nat → PV) → St → Prop)
    (h : ∀ (Φ : (Nat → PV) → St → Prop) (i : Nat) (x : Nat → PV) (σ : St), i ≤ N → I i x σ → (∀ x' σ', i < N → I (i + 1) x' σ' → Φ x' σ') → F Φ x σ) {x : Nat → PV} {σ : St} (h0 : I 0 x σ) : Lfp F x σ := by
  intro Φ hΦ
  have key : ∀ (k i : Nat) (x : Nat → PV) (σ : St), i + k = N → I i x σ → Φ x σ := by
    intro k
    induction k with
    | zero => intro i x σ hi hI; exact hΦ x σ (h Φ i x σ (by omega) hI (fun _ _ hlt => by omega))
    | succ k ih => intro i x σ hi hI; exact hΦ x σ (h Φ i x σ (by omega) hI (fun x' σ' _ hI' => ih (i + 1) x' σ' (by omega) hI'))
  exact key N 0 x σ (by omega) h0

end Go.Abs
