import Derived.Test.YteikomnahelckaaGreatDoorAbsA
set_option linter.unusedVariables false
set_option linter.unusedSimpArgs false
namespace Go.Abs
def forceL {α : Type} : List PV → (List PV → α) → α
 | [],K => K []
 | a :: l,K => forceL l fun l => K (a :: l)
def forceS {α : Type} : St → (St → α) → α
 | [],K => K []
 | .arr g z xs :: σ,K => forceN g fun g => forceL xs fun xs => forceS σ fun σ => K (.arr g z xs :: σ)
 | b :: σ,K => forceS σ fun σ => K (b :: σ)
theorem forceL_eq {α : Type} : ∀ (l : List PV) (K : List PV → α),forceL l K = K l
 | [],_ => rfl
 | a :: l,K => by rw [forceL,forceL_eq l]
theorem forceS_eq {α : Type} : ∀ (σ : St) (K : St → α),forceS σ K = K σ
 | [],_ => rfl
 | .arr g z xs :: σ,K => by rw [forceS,forceN_eq,forceL_eq,forceS_eq σ]
 | .map _ _ :: σ,K => by rw [forceS,forceS_eq σ]; intro _ _ _ h; cases h
 | .iter _ _ _ :: σ,K => by rw [forceS,forceS_eq σ]; intro _ _ _ h; cases h
 | .dead :: σ,K => by rw [forceS,forceS_eq σ]; intro _ _ _ h; cases h
def loopB (F : ((Nat → PV) → St → Bool) → (Nat → PV) → St → Bool) : Nat → (Nat → PV) → St → Bool
 | 0,_,_ => false
 | n + 1,x,σ => forceS σ fun σ => F (loopB F n) x σ
mutual
def PV.beq : PV → PV → Bool
 | .any,.any => true
 | .bool a,.bool b => a == b
 | .int k a,.int k' b => k == k' && a == b
 | .str a,.str b => a == b
 | .nilptr,.nilptr => true
 | .ptr b g i o,.ptr b' g' i' o' => b == b' && g == g' && i == i' && o == o'
 | .eptr e o,.eptr e' o' => PV.beq e e' && o == o'
 | .list k xs,.list k' ys => k == k' && PV.beqL xs ys
 | .sref b g s o l,.sref b' g' s' o' l' => b == b' && g == g' && s == s' && o == o' && l == l'
 | .nilmap,.nilmap => true
 | .mref b,.mref b' => b == b'
 | .func f k c,.func f' k' c' => f == f' && (k == k' && PV.beqL c c')
 | .nilfunc,.nilfunc => true
 | .iface t v,.iface t' v' => t == t' && PV.beq v v'
 | .nilIface,.nilIface => true
 | .agg xs,.agg ys => PV.beqL xs ys
 | .tuple xs,.tuple ys => PV.beqL xs ys
 | _,_ => false
def PV.beqL : List PV → List PV → Bool
 | [],[] => true
 | x :: xs,y :: ys => PV.beq x y && PV.beqL xs ys
 | _,_ => false
end
def beqE : List (PV × PV) → List (PV × PV) → Bool
 | [],[] => true
 | x :: xs,y :: ys => PV.beq x.1 y.1 && PV.beq x.2 y.2 && beqE xs ys
 | _,_ => false
def beqB : Blk → Blk → Bool
 | .arr g s xs,.arr g' s' ys => g == g' && s == s' && PV.beqL xs ys
 | .map v es,.map v' es' => v == v' && beqE es es'
 | .iter m l r,.iter m' l' r' => m == m' && l == l' && r == r'
 | .dead,.dead => true
 | _,_ => false
def beqS : St → St → Bool
 | [],[] => true
 | x :: xs,y :: ys => beqB x y && beqS xs ys
 | _,_ => false
mutual
def frzV (σ : St) : Nat → PV → Option PV
 | 0,_ => none
 | n + 1,.sref b g z o l => match σ[b]? with
  | some (.arr g' _ xs) => (match decide (g = g') && decide (o + l ≤ xs.length) with
   | true => (match frzL σ n ((xs.drop o).take l) with
    | some ys => some (.list .part ys)
    | none => none)
   | false => none)
  | _ => none
 | n + 1,.list k xs => (match frzL σ n xs with
  | some ys => some (.list k ys)
  | none => none)
 | n + 1,.agg xs => (match frzL σ n xs with
  | some ys => some (.agg ys)
  | none => none)
 | n + 1,.tuple xs => (match frzL σ n xs with
  | some ys => some (.tuple ys)
  | none => none)
 | _ + 1,.bool b => some (.bool b)
 | _ + 1,.int k i => some (.int k i)
 | _ + 1,.str s => some (.str s)
 | _ + 1,.nilptr => some .nilptr
 | _ + 1,.nilmap => some .nilmap
 | _ + 1,.nilfunc => some .nilfunc
 | _ + 1,.nilIface => some .nilIface
 | _ + 1,_ => none
def frzL (σ : St) : Nat → List PV → Option (List PV)
 | 0,_ => none
 | _ + 1,[] => some []
 | n + 1,x :: xs => match frzV σ n x with
  | some y => (match frzL σ n xs with
   | some ys => some (y :: ys)
   | none => none)
  | none => none
end
theorem frz_both (σ : St) : ∀ n,(∀ v v',frzV σ n v = some v' → Frz σ 0 v v') ∧ ∀ xs ys,frzL σ n xs = some ys → ys.length = xs.length ∧ ∀ (i : Nat) (x y : PV),xs[i]? = some x → ys[i]? = some y → Frz σ 0 x y := by
 intro n
 induction n with
 | zero => exact ⟨fun v v' h => by simp [frzV] at h,fun xs ys h => by simp [frzL] at h⟩
 | succ n ih =>
  refine ⟨fun v v' h => ?_,fun xs ys h => ?_⟩
  ·cases v with
   | sref b g z o l =>
    simp only [frzV] at h
    split at h
    ·rename_i g' z' xs hb
     split at h
     ·rename_i hh
      simp only [Bool.and_eq_true,decide_eq_true_eq] at hh
      split at h
      ·rename_i ys hys
       simp only [Option.some.injEq] at h
       subst h
       obtain ⟨h1,h2⟩ := ih.2 _ _ hys
       refine .sref b g z o l g' z' xs ys hb hh.1 (Nat.zero_le _) (by rw [h1]; simp; omega) hh.2 fun i x y hi hx hy => h2 i x y ?_ hy
       rw [List.getElem?_take,if_pos hi,List.getElem?_drop]
       exact hx
      ·cases h
     ·cases h
    ·cases h
   | list k xs =>
    simp only [frzV] at h
    split at h
    ·rename_i ys hys
     simp only [Option.some.injEq] at h
     subst h
     obtain ⟨h1,h2⟩ := ih.2 _ _ hys
     exact .list k xs ys h1 h2
    ·cases h
   | agg xs =>
    simp only [frzV] at h
    split at h
    ·rename_i ys hys
     simp only [Option.some.injEq] at h
     subst h
     obtain ⟨h1,h2⟩ := ih.2 _ _ hys
     exact .agg xs ys h1 h2
    ·cases h
   | tuple xs =>
    simp only [frzV] at h
    split at h
    ·rename_i ys hys
     simp only [Option.some.injEq] at h
     subst h
     obtain ⟨h1,h2⟩ := ih.2 _ _ hys
     exact .tuple xs ys h1 h2
    ·cases h
   | bool b => simp only [frzV,Option.some.injEq] at h; subst h; exact .base _ (.bool b)
   | int k i => simp only [frzV,Option.some.injEq] at h; subst h; exact .base _ (.int k i)
   | str s => simp only [frzV,Option.some.injEq] at h; subst h; exact .base _ (.str s)
   | nilptr => simp only [frzV,Option.some.injEq] at h; subst h; exact .base _ .nilptr
   | nilmap => simp only [frzV,Option.some.injEq] at h; subst h; exact .base _ .nilmap
   | nilfunc => simp only [frzV,Option.some.injEq] at h; subst h; exact .base _ .nilfunc
   | nilIface => simp only [frzV,Option.some.injEq] at h; subst h; exact .base _ .nilIface
   | _ => simp [frzV] at h
  ·cases xs with
   | nil =>
    simp only [frzL,Option.some.injEq] at h
    subst h
    exact ⟨rfl,fun i x y hx => by simp at hx⟩
   | cons x xs =>
    simp only [frzL] at h
    split at h
    ·rename_i y hy
     split at h
     ·rename_i ys hys
      simp only [Option.some.injEq] at h
      subst h
      obtain ⟨h1,h2⟩ := ih.2 _ _ hys
      refine ⟨by simp [h1],fun i a b ha hb => ?_⟩
      cases i with
      | zero => simp at ha hb; subst ha hb; exact ih.1 _ _ hy
      | succ i => exact h2 i a b (by simpa using ha) (by simpa using hb)
     ·cases h
    ·cases h
def isSlc : PV → Bool
 | .sref .. => true
 | _ => false
def preS : St → St → Bool
 | [],_ => true
 | x :: xs,y :: ys => beqB x y && preS xs ys
 | _,_ => false
def algB (P : Program) (ann : FuncId → Ann) (L : Nat) : Nat → Alg Bool
 | 0 => { fail := false,call := fun _ _ _ _ => false,same := fun _ _ _ => false,all := fun _ _ => false,loop := fun _ _ _ _ => false,cut := fun _ _ _ => false,weak := fun _ _ _ _ => false,both := fun _ _ => false }
 | n + 1 => {
   fail := false
   call := fun f args σ R => bodyC (algB P ann L n) P ann f args σ R
   same := fun σ σ' p => preS σ σ' && p
   all := fun l K => l.all fun r => K r.1 r.2
   loop := fun _ F x σ => loopB F L x σ
   cut := fun _ A B => A B
   weak := fun σ₀ v σ' K => match σ₀ with
    | [] => if isSlc v then K v σ' else (match frzV σ' 400 v with
     | some v' => K v' []
     | none => K v σ')
    | _ => K v σ'
   both := fun p q => p && q }
mutual
theorem PV.beq_sound : ∀ (x y : PV),PV.beq x y = true → x = y
 | .any,y,h => by cases y <;> simp [PV.beq] at h ⊢
 | .bool a,y,h => by cases y <;> simp [PV.beq] at h ⊢; exact h
 | .int k a,y,h => by cases y <;> simp [PV.beq] at h ⊢; exact h
 | .str a,y,h => by cases y <;> simp [PV.beq] at h ⊢; exact h
 | .nilptr,y,h => by cases y <;> simp [PV.beq] at h ⊢
 | .ptr b g i o,y,h => by cases y <;> simp [PV.beq] at h ⊢; simp [h]
 | .eptr e o,y,h => by
  cases y <;> simp [PV.beq] at h ⊢
  exact ⟨PV.beq_sound _ _ h.1,h.2⟩
 | .list k xs,y,h => by
  cases y <;> simp [PV.beq] at h ⊢
  exact ⟨h.1,PV.beqL_sound _ _ h.2⟩
 | .sref b g s o l,y,h => by cases y <;> simp [PV.beq] at h ⊢; simp [h]
 | .nilmap,y,h => by cases y <;> simp [PV.beq] at h ⊢
 | .mref b,y,h => by cases y <;> simp [PV.beq] at h ⊢; exact h
 | .func f k c,y,h => by
  cases y <;> simp [PV.beq] at h ⊢
  exact ⟨h.1,h.2.1,PV.beqL_sound _ _ h.2.2⟩
 | .nilfunc,y,h => by cases y <;> simp [PV.beq] at h ⊢
 | .iface t v,y,h => by
  cases y <;> simp [PV.beq] at h ⊢
  exact ⟨h.1,PV.beq_sound _ _ h.2⟩
 | .nilIface,y,h => by cases y <;> simp [PV.beq] at h ⊢
 | .agg xs,y,h => by
  cases y <;> simp [PV.beq] at h ⊢
  exact PV.beqL_sound _ _ h
 | .tuple xs,y,h => by
  cases y <;> simp [PV.beq] at h ⊢
  exact PV.beqL_sound _ _ h
theorem PV.beqL_sound : ∀ (xs ys : List PV),PV.beqL xs ys = true → xs = ys
 | [],ys,h => by cases ys <;> simp [PV.beqL] at h ⊢
 | x :: xs,ys,h => by
  cases ys with
  | nil => simp [PV.beqL] at h
  | cons y ys =>
   simp only [PV.beqL,Bool.and_eq_true] at h
   rw [PV.beq_sound _ _ h.1,PV.beqL_sound _ _ h.2]
end
theorem beqE_sound : ∀ (xs ys : List (PV × PV)),beqE xs ys = true → xs = ys
 | [],ys,h => by cases ys <;> simp [beqE] at h ⊢
 | x :: xs,ys,h => by
  cases ys with
  | nil => simp [beqE] at h
  | cons y ys =>
   simp only [beqE,Bool.and_eq_true] at h
   rw [beqE_sound _ _ h.2,Prod.ext (PV.beq_sound _ _ h.1.1) (PV.beq_sound _ _ h.1.2)]
theorem beqB_sound : ∀ (x y : Blk),beqB x y = true → x = y
 | .arr g z xs,y,h => by
  cases y <;> simp [beqB] at h ⊢
  exact ⟨h.1.1,h.1.2,PV.beqL_sound _ _ h.2⟩
 | .map v es,y,h => by
  cases y <;> simp [beqB] at h ⊢
  exact ⟨h.1,beqE_sound _ _ h.2⟩
 | .iter m l r,y,h => by cases y <;> simp [beqB] at h ⊢; exact ⟨h.1.1,h.1.2,h.2⟩
 | .dead,y,h => by cases y <;> simp [beqB] at h ⊢
theorem preS_sound : ∀ (xs ys : St),preS xs ys = true → Pre xs ys
 | [],ys,_ => ⟨ys,by simp⟩
 | x :: xs,[],h => by simp [preS] at h
 | x :: xs,y :: ys,h => by
  simp only [preS,Bool.and_eq_true] at h
  obtain ⟨g,hg⟩ := preS_sound xs ys h.2
  exact ⟨g,by rw [beqB_sound _ _ h.1,hg]; rfl⟩
theorem algB_rel (P : Program) (ann : FuncId → Ann) (L : Nat) : ∀ n,AlgRel (fun (b : Bool) (p : Prop) => b = true → p) (algB P ann L n) (algP (callW P ann))
 | 0 => {
   fail := fun q h => by cases h
   call := fun _ h => by cases h
   same := fun _ h => by cases h
   loop := fun _ h => by cases h
   all := fun _ h => by cases h
   cut := fun _ _ h => by cases h
   weak := fun _ h => by cases h
   both := fun _ _ h => by cases h }
 | n + 1 => {
   fail := fun q h => by cases h
   call := fun hR h => callW_fold (bodyC_rel (algB_rel P ann L n) hR h)
   same := fun hp h => by
    simp only [algB,Bool.and_eq_true] at h
    exact ⟨preS_sound _ _ h.1,hp h.2⟩
   loop := by
    intro n F F' x σ hF h Φ hΦ _
    have key : ∀ (k : Nat) (x : Nat → PV) (σ : St),loopB F k x σ = true → Φ x σ := by
     intro k
     induction k with
     | zero => intro x σ h; cases h
     | succ k ih => intro x σ h; rw [loopB,forceS_eq] at h; exact hΦ x σ (hF (loopB F k) Φ ih x σ h)
    exact key L x σ h
   all := fun hK h p hp => by
    simp only [algB,List.all_eq_true] at h
    exact hK _ _ (h p hp)
   cut := by
    intro n a a' b b' ha hb h
    exact ⟨b',fun _ _ h => .inl h,ha b b' hb h⟩
   weak := by
    intro σ₀ v σ' K K' hK h
    simp only [algB] at h
    split at h
    ·split at h
     ·exact ⟨_,_,.keep,hK _ _ h⟩
     ·split at h
      ·rename_i v' hv
       exact ⟨_,[],.clean σ' v' rfl ((frz_both σ' 400).1 _ _ hv),hK _ _ h⟩
      ·exact ⟨_,_,.keep,hK _ _ h⟩
    ·exact ⟨_,_,.keep,hK _ _ h⟩
   both := fun hp hq h => by
    simp only [algB,Bool.and_eq_true] at h
    exact ⟨hp h.1,hq h.2⟩ }
theorem callW_of_reckoned {P : Program} {ann : FuncId → Ann} {L n : Nat} {f : FuncId} {args : List PV} {σ : St} {R : Res → St → Bool} {R' : Res → St → Prop} (hR : ∀ x σ,R x σ = true → R' x σ)
  (h : bodyC (algB P ann L n) P ann f args σ R = true) : callW P ann f args σ R' :=
 callW_fold (bodyC_rel (algB_rel P ann L n) hR h)
end Go.Abs
namespace Go.Abs
section
variable {ρ : Type}
@[simp] theorem zA {α : Type} (f : ρ) (a : α) (K : α → ρ) : bindO f (some a) K = K a := rfl
@[simp] theorem zB {α : Type} (f : ρ) (K : α → ρ) : bindO f none K = f := rfl
@[simp] theorem zC (r : PV × St) (K : PV → St → Prop) : bindS (some r) K = K r.1 r.2 := rfl
@[simp] theorem zD (a b : Prop) : condW (.bool true) a b = a := rfl
@[simp] theorem zE (a b : Prop) : condW (.bool false) a b = b := rfl
@[simp] theorem zF (f : ρ) (op : ((Nat → EV) → St → ρ) → ρ) (σ : St) (K : (Nat → EV) → St → ρ) : guardG f (.bool true) true op σ K = op K := rfl
@[simp] theorem zG (f : ρ) (op : ((Nat → EV) → St → ρ) → ρ) (σ : St) (K : (Nat → EV) → St → ρ) : guardG f (.bool false) false op σ K = op K := rfl
@[simp] theorem zH (f : ρ) (op : ((Nat → EV) → St → ρ) → ρ) (σ : St) (K : (Nat → EV) → St → ρ) : guardG f (.bool true) false op σ K = K (fun _ => .v (.tuple [])) σ := rfl
@[simp] theorem zI (f : ρ) (op : ((Nat → EV) → St → ρ) → ρ) (σ : St) (K : (Nat → EV) → St → ρ) : guardG f (.bool false) true op σ K = K (fun _ => .v (.tuple [])) σ := rfl
@[simp] theorem zJ (f : ρ) (b : Bool) (op : ((Nat → EV) → St → ρ) → ρ) (σ : St) (K : (Nat → EV) → St → ρ) : guardG f (.tuple []) b op σ K = K (fun _ => .v (.tuple [])) σ := rfl
@[simp] theorem pv_v (x : PV) : (EV.v x).pv = x := rfl
@[simp] theorem pv_loc (s o : Nat) : (EV.loc s o).pv = .any := rfl
@[simp] theorem zK (k n : Nat) (x : PV) (l : List (Nat × PV)) : lookP ((k,x) :: l) n = if n = k then x else lookP l n := rfl
@[simp] theorem zL (k n : Nat) (x : EV) (l : List (Nat × EV)) : lookE ((k,x) :: l) n = if n = k then x else lookE l n := rfl
@[simp] theorem zM (a b : PV) : vPick (.bool true) a b = some a := rfl
@[simp] theorem zN (a b : PV) : vPick (.bool false) a b = some b := rfl
@[simp] theorem zO (b : Bool) : vUn .not (.bool b) = some (.bool !b) := rfl
@[simp] theorem zP (vs : List PV) (i : Nat) : vExtract (.tuple vs) i = vs[i]? := rfl
variable (ek : Option EK) (k : IntKind)
@[simp] theorem zQ (a b : Int) : vBin ek .lss (.int k a) (.int k b) = some (.bool (decide (a < b))) := by simp [vBin,vArith]
@[simp] theorem zR (a b : Int) : vBin ek .leq (.int k a) (.int k b) = some (.bool (decide (a ≤ b))) := by simp [vBin,vArith]
@[simp] theorem zS (a b : Int) : vBin ek .gtr (.int k a) (.int k b) = some (.bool (decide (a > b))) := by simp [vBin,vArith]
@[simp] theorem zT (a b : Int) : vBin ek .geq (.int k a) (.int k b) = some (.bool (decide (a ≥ b))) := by simp [vBin,vArith]
@[simp] theorem zU (a b : Int) : vBin ek .eql (.int k a) (.int k b) = some (.bool (a == b)) := by simp [vBin,vArith]
@[simp] theorem zV (a b : Int) : vBin ek .neq (.int k a) (.int k b) = some (.bool (a != b)) := by simp [vBin,vArith]
@[simp] theorem zW (a b : List UInt8) : vBin ek .eql (.str a) (.str b) = some (.bool (a == b)) := by simp [vBin,vStrOp]
@[simp] theorem zX (a b : List UInt8) : vBin ek .neq (.str a) (.str b) = some (.bool !(a == b)) := by simp [vBin,vStrOp]
@[simp] theorem vBin_eql_bool (a b : Bool) : vBin (some .bool) .eql (.bool a) (.bool b) = some (.bool (a == b)) := by simp [vBin,vEq]
@[simp] theorem vBin_neq_bool (a b : Bool) : vBin (some .bool) .neq (.bool a) (.bool b) = some (.bool !(a == b)) := by simp [vBin,vEq]
theorem wrap64_small {n : Int} (h1 : -9223372036854775808 ≤ n) (h2 : n < 9223372036854775808) : IntKind.wrap .i64 n = n := by
 simp only [IntKind.wrap,IntKind.bits,IntKind.signed]
 simp
 omega
theorem vBin_add {a b : Int} (h1 : -9223372036854775808 ≤ a + b) (h2 : a + b < 9223372036854775808) : vBin ek .add (.int .i64 a) (.int .i64 b) = some (.int .i64 (a + b)) := by
 simp [vBin,vArith,wrap64_small h1 h2]
theorem vBin_sub {a b : Int} (h1 : -9223372036854775808 ≤ a - b) (h2 : a - b < 9223372036854775808) : vBin ek .sub (.int .i64 a) (.int .i64 b) = some (.int .i64 (a - b)) := by
 simp [vBin,vArith,wrap64_small h1 h2]
theorem vBin_add_str {a b : List UInt8} (h : a.length + b.length ≤ 4611686018427387904) : vBin ek .add (.str a) (.str b) = some (.str (a ++ b)) := by
 simp [vBin,vStrOp,h]
@[simp] theorem zY (l : List UInt8) (σ : St) : vLen .str (.str l) σ = some (.int .i64 l.length) := rfl
@[simp] theorem zZ (k : LK) (l : List PV) (σ : St) : vLen .sl (.list k l) σ = some (.int .i64 l.length) := rfl
@[simp] theorem yA (b g z o l : Nat) (σ : St) : vLen .sl (.sref b g z o l) σ = some (.int .i64 l) := rfl
theorem vStrAt_nat {l : List UInt8} {i : Nat} {b : UInt8} (h : l[i]? = some b) : vStrAt (.str l) (.int k i) = some (.int .u8 b.toNat) := by
 simp [vStrAt,h]
theorem vIndex_list {lk : LK} {xs : List PV} {sz i : Nat} {e : PV} {cs : List PV} (h : xs[i]? = some e) (hc : e.cells? = some cs) (hl : cs.length = sz) : vIndex sz (.list lk xs) (.int k i) = some (.eptr e 0) := by
 simp [vIndex,h,hc,hl]
@[simp] theorem yB (ag : Bool) (sz : Nat) (e : PV) (off : Nat) (σ : St) : vLoad ag sz (.eptr e off) σ = vPart ag sz e off := rfl
@[simp] theorem yC (cs : List PV) (off sz : Nat) : vPart false sz (.agg cs) off = cs[off]? := rfl
@[simp] theorem yE (s : List UInt8) (sz : Nat) : vPart false sz (.str s) 0 = some (.str s) := rfl
@[simp] theorem yF (s : Bool) (sz : Nat) : vPart false sz (.bool s) 0 = some (.bool s) := rfl
@[simp] theorem yG (q : IntKind) (s : Int) (sz : Nat) : vPart false sz (.int q s) 0 = some (.int q s) := rfl
@[simp] theorem yH (q : LK) (s : List PV) (sz : Nat) : vPart false sz (.list q s) 0 = some (.list q s) := rfl
@[simp] theorem yD (a b : PV) : vPart true 2 (.agg [a,b]) 0 = some (.agg [a,b]) := rfl
@[simp] theorem yI (e : PV) (off o : Nat) : vField o (.eptr e off) = some (.eptr e (off + o)) := rfl
@[simp] theorem yJ (b g i off o : Nat) : vField o (.ptr b g i off) = some (.ptr b g i (off + o)) := rfl
end
@[simp] theorem yK {α : Type} {a : α} {l : List α} : (a :: l)[0]? = some a := rfl
@[simp] theorem yL {α : Type} {l : List α} {i : Nat} {a : α} : (a :: l)[i + 1]? = l[i]? := List.getElem?_cons_succ
theorem CutW_of {n : St} {A : ((Nat → PV) → St → Prop) → Prop} {B : (Nat → PV) → St → Prop} (h : A B) : CutW n A B := ⟨B,fun _ _ h => .inl h,h⟩
theorem CutW_by {n : St} {A : ((Nat → PV) → St → Prop) → Prop} {B : (Nat → PV) → St → Prop} (J : (Nat → PV) → St → Prop) (hB : ∀ x σ,J x σ → B x σ) (h : A J) : CutW n A B := ⟨J,fun x σ h => .inl (hB x σ h),h⟩
theorem weakW_kill {σ₀ : St} {v v' : PV} {σ' σ'' : St} {K : PV → St → Prop} (D : Nat → Prop) (hk : Kill σ₀ D σ' σ'') (hf : FrzD σ' D v v') (h : K v' σ'') : weakW σ₀ v σ' K := ⟨v',σ'',.kill D v' σ'' hk hf,h⟩
theorem weakW_keep {σ₀ : St} {v : PV} {σ' : St} {K : PV → St → Prop} (h : K v σ') : weakW σ₀ v σ' K := ⟨v,σ',.keep,h⟩
theorem weakW_clean {σ₀ : St} {v v' : PV} {σ' : St} {K : PV → St → Prop} (hp : σ₀ <+: σ') (hf : Frz σ' σ₀.length v v') (h : K v' σ₀) : weakW σ₀ v σ' K := by
 obtain ⟨g,rfl⟩ := hp
 exact ⟨v',σ₀,.clean g v' rfl hf,h⟩
def Ret (W : CallP) (f : FuncId) (args : List PV) (σ : St) (v : PV) : Prop := ∀ R : Res → St → Prop,R (.ret v) σ → W f args σ R
theorem Ret.callB {W : CallP} {f : FuncId} {args : List PV} {σ : St} {v : PV} (h : Ret W f args σ v) {K X : PV → St → Prop} (k : K v σ) : callB W f args σ K X := h _ k
theorem Ret.callC {W : CallP} {f : FuncId} {args : List PV} {σ : St} {v : PV} (h : Ret W f args σ v) {K : PV → St → Prop} (k : K v σ) : callC W f args σ K := h _ ⟨.refl σ,k⟩
theorem Lfp_upW {n : St} {F : ((Nat → PV) → St → Prop) → (Nat → PV) → St → Prop} (N : Nat) (I : Nat → (Nat → PV) → St → Prop)
  (h : ∀ (Φ : (Nat → PV) → St → Prop) (i : Nat) (x : Nat → PV) (σ : St),i ≤ N → I i x σ → (∀ x' σ',i < N → I (i + 1) x' σ' → Φ x' σ') → (∀ x σ x' σ',WeakX n x σ x' σ' → Φ x' σ' → Φ x σ) → F Φ x σ) {x : Nat → PV} {σ : St} (h0 : I 0 x σ) : Lfp n F x σ := by
 intro Φ hΦ hw
 have key : ∀ (k i : Nat) (x : Nat → PV) (σ : St),i + k = N → I i x σ → Φ x σ := by
  intro k
  induction k with
  | zero => intro i x σ hi hI; exact hΦ x σ (h Φ i x σ (by omega) hI (fun _ _ hlt => by omega) hw)
  | succ k ih => intro i x σ hi hI; exact hΦ x σ (h Φ i x σ (by omega) hI (fun x' σ' _ hI' => ih (i + 1) x' σ' (by omega) hI') hw)
 exact key N 0 x σ (by omega) h0
theorem Lfp_up {n : St} {F : ((Nat → PV) → St → Prop) → (Nat → PV) → St → Prop} (N : Nat) (I : Nat → (Nat → PV) → St → Prop)
  (h : ∀ (Φ : (Nat → PV) → St → Prop) (i : Nat) (x : Nat → PV) (σ : St),i ≤ N → I i x σ → (∀ x' σ',i < N → I (i + 1) x' σ' → Φ x' σ') → F Φ x σ) {x : Nat → PV} {σ : St} (h0 : I 0 x σ) : Lfp n F x σ :=
 Lfp_upW N I (fun Φ i x σ hi hI hk _ => h Φ i x σ hi hI hk) h0
theorem Lfp_down {n : St} {F : ((Nat → PV) → St → Prop) → (Nat → PV) → St → Prop} (I : Nat → (Nat → PV) → St → Prop)
  (h : ∀ (Φ : (Nat → PV) → St → Prop) (m : Nat) (x : Nat → PV) (σ : St),I m x σ → (∀ x' σ' m',m' < m → I m' x' σ' → Φ x' σ') → (∀ x σ x' σ',WeakX n x σ x' σ' → Φ x' σ' → Φ x σ) → F Φ x σ) (m : Nat) {x : Nat → PV} {σ : St} (h0 : I m x σ) : Lfp n F x σ := by
 intro Φ hΦ hw
 have key : ∀ (k m : Nat) (x : Nat → PV) (σ : St),m < k → I m x σ → Φ x σ := by
  intro k
  induction k with
  | zero => intro m x σ hm; omega
  | succ k ih => intro m x σ hm hI; exact hΦ x σ (h Φ m x σ hI (fun x' σ' m' hlt hI' => ih m' x' σ' (by omega) hI') hw)
 exact key (m + 1) m x σ (by omega) h0
end Go.Abs
namespace Go.Abs
inductive Elems (σ : St) (sz : Nat) : PV → List PV → Prop where
 | list (k xs) : Elems σ sz (.list k xs) xs
 | sref (b g off z ys xs) : σ[b]? = some (.arr g z ys) → off + xs.length ≤ ys.length → xs = (ys.drop off).take xs.length → Elems σ sz (.sref b g sz off xs.length) xs
theorem Elems.len {σ : St} {sz : Nat} {x : PV} {xs : List PV} (h : Elems σ sz x xs) (σ' : St) : vLen .sl x σ' = some (.int .i64 xs.length) := by
 cases h <;> rfl
theorem Elems.at_ {σ : St} {sz : Nat} {x : PV} {xs : List PV} (h : Elems σ sz x xs) {i : Nat} {e : PV} {cs : List PV} {k : IntKind} (he : xs[i]? = some e) (hc : e.cells? = some cs) (hl : cs.length = sz) :
  ∃ p,vIndex sz x (.int k i) = some p ∧ (∀ ag s,vLoad ag s p σ = vPart ag s e 0) ∧ ∀ o,∃ q,vField o p = some q ∧ ∀ ag s,vLoad ag s q σ = vPart ag s e o := by
 cases h with
 | list k' xs =>
  exact ⟨_,vIndex_list k he hc hl,fun _ _ => rfl,fun o => ⟨_,rfl,fun ag s => by rw [Nat.zero_add]; rfl⟩⟩
 | sref b g off z ys xs hb hfit hxs =>
  have hil : i < xs.length := (List.getElem?_eq_some_iff.1 he).1
  have hy : ys[off + i]? = some e := by
   rw [hxs,List.getElem?_take,if_pos hil,List.getElem?_drop] at he
   exact he
  refine ⟨.ptr b g (off + i) 0,?_,fun ag s => by simp [vLoad,hb,hy],fun o => ⟨.ptr b g (off + i) o,by simp [vField],fun ag s => by simp [vLoad,hb,hy]⟩⟩
  simp only [vIndex]
  rw [if_pos ⟨by omega,by omega,trivial⟩]
  simp
theorem Elems.elems {σ : St} {sz : Nat} {x : PV} {xs : List PV} (h : Elems σ sz x xs) : vElems x σ = some xs := by
 cases h with
 | list => rfl
 | sref b g off z ys xs hb hfit hxs =>
  simp only [vElems,hb]
  rw [if_pos ⟨trivial,hfit⟩,← hxs]
theorem Elems.pre {σ σ' : St} {sz : Nat} {x : PV} {xs : List PV} (h : Elems σ sz x xs) (hp : σ <+: σ') : Elems σ' sz x xs := by
 cases h with
 | list => exact .list _ _
 | sref b g off z ys xs hb hfit hxs =>
  obtain ⟨t,rfl⟩ := hp
  exact .sref b g off z ys xs (by rw [List.getElem?_append_left (List.getElem?_eq_some_iff.1 hb).1]; exact hb) hfit hxs
def Sized (sz : Nat) (x : PV) : Prop := ∃ cs,x.cells? = some cs ∧ cs.length = sz
theorem headSized_of {sz : Nat} {xs : List PV} (h : ∀ x ∈ xs,Sized sz x) : headSized sz xs = true := by
 cases xs with
 | nil => rfl
 | cons x xs =>
  obtain ⟨cs,h1,h2⟩ := h x (by simp)
  simp [headSized,h1,h2]
def Grow (n0 sz : Nat) (σ : St) (x : PV) (ys : List PV) : Prop :=
 (x = .list .nil [] ∧ ys = []) ∨ ∃ b g,n0 ≤ b ∧ x = .sref b g sz 0 ys.length ∧ σ[b]? = some (.arr g sz ys) ∧ ys ≠ []
theorem Grow.nil (n0 sz : Nat) (σ : St) : Grow n0 sz σ (.list .nil []) [] := .inl ⟨rfl,rfl⟩
theorem pre_set {σ0 σ : St} (h : σ0 <+: σ) {b : Nat} (hb : σ0.length ≤ b) (k : Blk) : σ0 <+: σ.set b k := by
 obtain ⟨t,rfl⟩ := h
 rw [List.set_append_right _ _ hb]
 exact ⟨_,rfl⟩
theorem pre_app {σ0 σ : St} (h : σ0 <+: σ) (g : St) : σ0 <+: σ ++ g := h.trans ⟨g,rfl⟩
theorem Grow.app {σ0 : St} {sz by_ : Nat} {σ : St} {x y : PV} {ys zs : List PV} (h : Grow σ0.length sz σ x ys) (hp : σ0 <+: σ) (hy : vElems y σ = some zs) (hz : ∀ z ∈ zs,Sized sz z) (hr : (ys.length + zs.length) * by_ ≤ 140737488355328) :
  ∃ x' σ',vAppend sz by_ x y σ = some (x',σ') ∧ Grow σ0.length sz σ' x' (ys ++ zs) ∧ σ0 <+: σ' ∧ ∀ c,(∀ b g z o l,x = .sref b g z o l → c ≠ b) → c < σ.length → σ'[c]? = σ[c]? := by
 have hroom : roomy (ys.length + zs.length) by_ = true := by simp [roomy,hr]
 rcases h with ⟨rfl,rfl⟩ | ⟨b,g,hb0,rfl,hb,hne⟩
 ·cases zs with
  | nil => exact ⟨.list .nil [],σ,by simp [vAppend,hy],.inl ⟨rfl,rfl⟩,hp,fun _ _ _ => rfl⟩
  | cons z zs =>
   refine ⟨.sref σ.length 0 sz 0 (z :: zs).length,σ ++ [.arr 0 sz (z :: zs)],?_,.inr ⟨σ.length,0,hp.length_le,by simp,by simp,by simp⟩,pre_app hp _,fun c _ hc => by rw [List.getElem?_append_left hc]⟩
   simp only [List.length_nil] at hroom
   simp only [vAppend,hy]
   simp only [List.isEmpty_cons,Bool.false_eq_true,if_false,List.length_nil]
   rw [if_pos ⟨by simp,hroom,rfl,headSized_of hz⟩]
   simp
 ·have hbl : b < σ.length := (List.getElem?_eq_some_iff.1 hb).1
  cases zs with
  | nil => exact ⟨_,σ,by simp [vAppend,hy]; rfl,.inr ⟨b,g,hb0,by simp,by simpa using hb,by simpa using hne⟩,hp,fun _ _ _ => rfl⟩
  | cons z zs =>
   refine ⟨.sref b (nextG g) sz 0 (ys.length + (z :: zs).length),σ.set b (.arr (nextG g) sz (ys ++ z :: zs)),?_,.inr ⟨b,nextG g,hb0,by simp,by simp [hbl],by simp⟩,pre_set hp hb0 _,fun c hc _ => ?_⟩
   ·simp only [vAppend,hy,hb]
    simp only [List.isEmpty_cons,Bool.false_eq_true,if_false]
    rw [if_pos ⟨trivial,trivial,by omega,hroom,headSized_of hz⟩,if_neg (by simp)]
    simp
   ·rw [List.getElem?_set,if_neg (Ne.symm (hc b g sz 0 ys.length rfl))]
def growV (ys : List PV) : PV := match ys with
 | [] => .list .nil []
 | _ => .list .part ys
theorem growV_list (ys : List PV) : ∃ k,growV ys = .list k ys := by
 cases ys with
 | nil => exact ⟨_,rfl⟩
 | cons y ys => exact ⟨_,rfl⟩
theorem Grow.frz {n0 sz : Nat} {σ : St} {x : PV} {ys : List PV} (h : Grow n0 sz σ x ys) (hu : ∀ y ∈ ys,Frz σ n0 y y) : Frz σ n0 x (growV ys) := by
 rcases h with ⟨rfl,rfl⟩ | ⟨b,g,hb0,rfl,hb,hne⟩
 ·exact .list _ _ _ rfl (by simp)
 ·cases ys with
  | nil => exact absurd rfl hne
  | cons y ys =>
   refine .sref b g sz 0 _ g sz _ _ hb rfl hb0 rfl (by omega) fun i a c hi ha hc => ?_
   rw [Nat.zero_add,hc] at ha
   cases ha
   exact hu a (List.mem_of_getElem? hc)
theorem newT_eq (g sz : Nat) (z : PV) (σ : St) (K : PV → St → Prop) : newT g sz z σ K = K (.ptr σ.length g 0 0) (σ ++ [.arr g sz [z]]) := rfl
theorem newW_eq (sz : Nat) (z : PV) (σ : St) (K : PV → St → Prop) : newW sz z σ K = K (.ptr σ.length 0 0 0) (σ ++ [.arr 0 sz [z]]) := rfl
theorem new_get (σ : St) (k : Blk) : (σ ++ [k])[σ.length]? = some k := by simp
theorem vBuildSl_one {sz : Nat} {z x : PV} (h : Sized sz x) : vBuildSl sz (List.replicate 1 z) [(0,x)] = some [x] := by
 obtain ⟨cs,h1,h2⟩ := h
 simp [vBuildSl,h1,h2]
end Go.Abs
